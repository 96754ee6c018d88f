/- The reference of chapter 15: Chain, cycle, Cycle. Conditions: how the order and the lists lie in memory. -/
import Derived.Test.YtnidcoinfmcffaaDoorSfB
import Derived.Test.YtnidcoinfmcffaaDoorOsU
import Derived.Test.YtnidcoinfmcffaaDoorOtE
import Derived.Test.YtnidcoinfmcffaaDoorOtA
/- The reference of chapter 15: chain, Chain. Conditions: how the order and the lists lie in memory. -/
namespace Go.Proofs.YtnidcoinfmcffaaDoor
open Go.RowKit
attribute [local go_sem] Oper.semAt_some
theorem step_load_rel {W : World} {ops : Array Oper} {o : Oper} {T : Array Value} {D : List Deferred} {K : Act → World → Prop} {Q : Exit → Act → World → Prop} {E : Prop} (hgd : o.guard = none) (x : Operand) (ho : o.op = .load 62 x)
  (b : Nat) (hx : Act.eval ⟨T, D⟩ x = .pointer (some ⟨b, 0, none⟩)) (R : RelO) (hB : Blk W b (relL R) 62) (h : K (Act.put ⟨T, D⟩ o.dst (relV R)) W) : if Region.wanted o (yielded ops T) = true then Oper.wp Tryd.prog o ⟨T, D⟩ W K Q else E := by
 have hw : Region.wanted o (yielded ops T) = true := by simp [Region.wanted, hgd]
 rw [if_pos hw]
 exact wp_load_mid 62 x ho b 0 hx (relL R) _ (rel_range hB) Tryd.underlying62 rfl (by rw [relL_len]; exact rel_size) h
/-- 'append(l[:len(l):len(l)], x)': always a new list -/
theorem step_cut1 {W : World} {ops : Array Oper} {o : Oper} {T : Array Value} {D : List Deferred} {K : Act → World → Prop} {Q : Exit → Act → World → Prop} {E : Prop} (hgd : o.guard = none) (s x : Operand)
  (ho : o.op = .call { callee := .builtin .append, args := #[s, x], argTypes := #[26, 26] }) (a1 : Option Addr) (k : Nat) (L1 : List Int) (hs : Act.eval ⟨T, D⟩ s = .slice a1 k k) (h1 : IntsIn W.cell? (.slice a1 k k) L1)
  (b0 : Nat) (y : Int) (hx : Act.eval ⟨T, D⟩ x = .slice (some ⟨b0, 0, none⟩) 1 1) (hB : Blk W b0 [.int .i64 y] 3) (hlen : k < 1000000)
  (h : ∀ va vc W', IntsIn W'.cell? (.slice va (k + 1) vc) (L1 ++ [y]) → Below W.heap.size W W' → K (Act.put ⟨T, D⟩ o.dst (.slice va (k + 1) vc)) W') : if Region.wanted o (yielded ops T) = true then Oper.wp Tryd.prog o ⟨T, D⟩ W K Q else E := by
 have hw : Region.wanted o (yielded ops T) = true := by simp [Region.wanted, hgd]
 rw [if_pos hw]
 have e1 := ints_form h1
 obtain ⟨i0, hi, hz0, hz1, hz2⟩ := info_parts infoInt
 have hnews : ∀ j u, [Value.int .i64 y][j]? = some u → W.cell? ((⟨b0, 0, none⟩ : Addr).add j) = some u := fun j u hj => by
  have hj1 : j < 1 := (List.getElem?_eq_some_iff.1 hj).1
  obtain rfl : j = 0 := by omega
  exact hB.cell 0 hj
 have fin : ∀ v' w', w'.ownsRow W.heap.size 3 1 v' (k + 1) (L1.map (Value.int .i64) ++ [.int .i64 y]) → W.grownBy w' none → K (Act.put ⟨T, D⟩ o.dst v') w' := fun v' w' r1 r2 => by
  have hO : OwnI w' W.heap.size v' (L1 ++ [y]) := by
   show World.ownsRow _ _ _ _ _ _ _
   rw [List.length_append, ← e1, List.map_append]
   exact r1
  obtain ⟨va, vc, e⟩ := hO.form
  rw [List.length_append, ← e1] at e
  subst e
  exact h _ _ _ hO.ints (below_grownN r2)
 cases a1 with
 | some b =>
  obtain ⟨v', w', hrun, r1, r2⟩ := run_append_arg_grows (P := Tryd.prog) W 26 o.type 3 i0 (.int .i64 0) 1 8 Tryd.underlying26 hi hz0 hz1 hz2 rfl (by decide) b k k (L1.map (Value.int .i64)) (by simp [e1]) (ints_cells h1 _ rfl) ⟨b0, 0, none⟩ 1 1 [.int .i64 y] rfl hnews (by omega) (by unfold maxLen; omega) (by omega)
  unfold Oper.wp
  simp [execOp, ho, resolve, invoke, builtin, hs, hx, hrun, Result.andThen]
  exact fin _ _ r1 r2
 | none =>
  have hk : k = 0 := by
   rcases Nat.eq_zero_or_pos k with h0 | h0
   ·exact h0
   ·obtain ⟨b9, o9, e8, -⟩ := intsR_at h1 (i := 0) (by omega)
    cases e8
  subst hk
  obtain rfl : L1 = [] := List.eq_nil_of_length_eq_zero (by omega)
  obtain ⟨v', w', hrun, r1, r2, _⟩ := run_append_own (P := Tryd.prog) W W.heap.size 26 o.type 3 i0 (.int .i64 0) 1 8 Tryd.underlying26 hi hz0 hz1 hz2 rfl (by decide) (.slice none 0 0) 0 [] (World.ownsRow_nil W _ 3 1) ⟨b0, 0, none⟩ 1 1 [.int .i64 y] rfl hnews (by intro u hu; rw [List.mem_singleton] at hu; subst hu; rfl) (by unfold maxLen; omega) (by omega) (Nat.le_refl _)
  unfold Oper.wp
  simp [execOp, ho, resolve, invoke, builtin, hs, hx, hrun, Result.andThen]
  exact fin _ _ r1 r2
/-- what the reference's chain returns: the longest one that begins with a list -/
def nextB (R : RelO) (l : List Nat) (x : Nat) : Bool := l.isEmpty || R (lastO l) x
def chB (n : Nat) (R : RelO) (l : List Nat) (x : Nat) : List Nat := l ++ bestF (fromO n R) (nextB R l) (List.range x) []
theorem chB_nil (n : Nat) (R : RelO) : chB n R [] n = chainO n R := rfl
theorem chB_zero (n : Nat) (R : RelO) (l : List Nat) : chB n R l 0 = l := by unfold chB; simp [bestF]
theorem chB_snoc {n : Nat} {R : RelO} (h : PoO n R) (l : List Nat) (a : Nat) : chB n R (l ++ [a]) n = l ++ fromO n R a := by
 unfold chB
 rw [from_eq h a]
 have e : nextB R (l ++ [a]) = R a := by
  funext x
  unfold nextB
  rw [lastO_snoc]
  cases l <;> rfl
 rw [e]; simp
theorem chB_next (n : Nat) (R : RelO) (l : List Nat) (x : Nat) : chB n R l (x + 1) = if nextB R l x && decide ((chB n R l x).length < (l ++ fromO n R x).length) then l ++ fromO n R x else chB n R l x := by
 unfold chB
 rw [List.range_succ]
 unfold bestF
 rw [List.foldl_append]
 show l ++ (if nextB R l x && decide (_ < (fromO n R x).length) then fromO n R x else _) = _
 rw [List.length_append, List.length_append]
 cases h1 : nextB R l x
 ·rfl
 ·by_cases h2 : (List.foldl (fun r b => if nextB R l b && decide (r.length < (fromO n R b).length) then fromO n R b else r) [] (List.range x)).length < (fromO n R x).length
  ·rw [decide_eq_true h2, decide_eq_true (by omega)]; rfl
  ·rw [decide_eq_false h2, decide_eq_false (by omega)]; rfl
theorem fromO_len {n : Nat} {R : RelO} (h : PoO n R) {x : Nat} (hx : x < n) : (fromO n R x).length ≤ n := by
 have := best_ge (f := fromO n R) (p := fun _ => true) (List.range n) []
 have h1 := this.2 x (List.mem_range.2 hx) rfl
 have hc := chain_is h
 have hn : (chainO n R).Nodup := by
  unfold ChainL at hc
  exact List.Pairwise.imp (fun {a b} hab e => by subst e; rw [h.irr] at hab; cases hab) hc
 exact Nat.le_trans h1 (nodup_le n hn (chain_dom h))
/-- a list and what lies in it, as the calls of chain hand it on -/
def ChQ (l : List Nat) (w : World) (e : Ending) (w' : World) : Prop := ∃ v, e = .returned v ∧ IntsIn w'.cell? v (natsO l) ∧ Below w.heap.size w w'
theorem nextB_snoc (R : RelO) (l : List Nat) (x y : Nat) : nextB R (l ++ [x]) y = R x y := by
 unfold nextB
 rw [lastO_snoc]
 cases l <;> rfl
set_option maxRecDepth 100000 in
set_option maxHeartbeats 4000000 in
theorem rchainS_any {n : Nat} {R : RelO} (hn8 : n ≤ 8) (hP : PoO n R) (c : Nat) : ∀ (l : List Nat) (lv : Value) (w : World), l.length + c ≤ 1000 → (∀ y ∈ l, y < n) → (∀ x, x < n → nextB R l x = true → succN n R x < c) → IntsIn w.cell? lv (natsO l) → Calls Tryd.prog 76 #[.int .i64 (n : Nat), relV R, lv] w (ChQ (chB n R l n) w) := by
 induction c using Nat.strongRecOn with
 | ind c ih =>
  intro l lv w hlc hln hsx hl
  have HIH : Hid (∀ x, x < n → nextB R l x = true → ∀ W v, IntsIn W.cell? v (natsO l ++ [(x : Int)]) → Calls Tryd.prog 76 #[.int .i64 (n : Nat), relV R, v] W (ChQ (l ++ fromO n R x) W)) := hide (fun x hx hnx W v hv => by
   have h := ih (succN n R x) (hsx x hx hnx) (l ++ [x]) v W (by rw [List.length_append, List.length_singleton]; have := hsx x hx hnx; omega) (fun y hy => by
    rcases List.mem_append.1 hy with h1 | h1
    ·exact hln y h1
    ·rw [List.mem_singleton.1 h1]; exact hx) (fun y hy hny => by rw [nextB_snoc] at hny; exact succ_lt hP hny) (by rw [natsO_snoc]; exact hv)
   rw [chB_snoc hP] at h
   exact h)
  have HC0 := hide (chB_zero n R l)
  have HCS := hide (chB_next n R l)
  have HFL := hide (fun x hx => fromO_len hP (x := x) hx)
  have HCL : Hid (∀ x, x ≤ n → (chB n R l x).length ≤ 1008) := hide (fun x hx => by
   unfold chB
   rw [List.length_append]
   rcases best_is (f := fromO n R) (p := nextB R l) (List.range x) [] with h | ⟨b, hb, -, h⟩
   ·rw [h]; simp; omega
   ·rw [h]; have := fromO_len hP (x := b) (by have := List.mem_range.1 hb; omega); omega)
  have HLM : Hid (l ≠ [] → lastO l < n) := hide (fun h => hln _ (getD_mem l _ (by have := List.length_pos_iff.2 h; omega)))
  obtain ⟨m, hm⟩ : ∃ m, l.length = m := ⟨_, rfl⟩
  have hnm : (natsO l).length = m := by rw [natsO_ln, hm]
  obtain ⟨sa, sc, rfl, hs1, hs2, -⟩ := id hl
  rw [hnm] at hl hs1 ⊢
  have HLI := hide hl
  have HCT0 : Hid (IntsIn w.cell? (.slice sa m m) (natsO l)) := hide (by
   have h := IntsIn.take hl (k := m) (by omega)
   rw [← hnm, List.take_length] at h
   rw [← hnm]; exact h)
  have hm1 : m < 1000000 := by omega
  have hmI : (m : Int) ≤ 9223372036854775807 := by omega
  have HM := hide hm
  clear ih hsx hln hl hlc hs2 hm
  go_enter Tryd.func76, Tryd.ntmps76
  go_wp2_with fail
  generalize hX1 : World.alloc w _ = X1
  have zX1 : X1.heap.size = w.heap.size + 1 := by rw [← hX1]; simp
  have bX1 : Below w.heap.size w X1 := by rw [← hX1]; exact bal w _
  have bM : Blk X1 (w.heap.size) (relL R) 62 := by rw [← hX1]; exact Blk.newA w _ (by first | rfl | simp)
  have Xb := bX1
  have Xz := zX1
  clear hX1 zX1 bX1
  have HXB := hide Xb
  have HBM := hide bM
  have HLX := hide (ints_low HLI.out Xb)
  clear bM Xb Xz
  go_loopw [7, 8] (fun v i wr => ∃ (x : Nat) (v' : Value), x ≤ n ∧ i = .int .i64 x ∧ v = v' ∧ IntsIn wr.cell? v' (natsO (chB n R l x)) ∧ Below X1.heap.size X1 wr) (fun _ i _ => n - (intOf i).toNat)
  case atStart => exact ⟨0, _, by omega, rfl, rfl, by rw [HC0.out]; exact HLX.out, Below.refl _ _⟩
  case round =>
   obtain ⟨x, v', hx, rfl, rfl, hbi, hbr⟩ := hrel
   have HCLx := hide (HCL.out x hx)
   obtain ⟨ca, cc, rfl, -, -, -⟩ := id hbi
   have HBI := hide hbi
   have HBR := hide hbr
   have BM1 := hide (HBM.out.later hbr)
   have HCT := hide (ints_low (ints_low HCT0.out HXB.out) hbr)
   have HLR := hide (ints_low HLX.out hbr)
   clear hbi hbr
   by_cases hlx : x < n
   ·have hlxI : (x : Int) < n := by omega
    have HX := hide hlx
    have hx8 : x < 8 := by omega
    have hx8I : (x : Int) < 8 := by omega
    have HSX := hide (HCS.out x)
    obtain ⟨FX, hFX⟩ : ∃ FX, natsO (l ++ fromO n R x) = FX := ⟨_, rfl⟩
    obtain ⟨CX, hCX⟩ : ∃ CX, natsO (chB n R l x) = CX := ⟨_, rfl⟩
    obtain ⟨q, hq⟩ : ∃ q, FX.length = q := ⟨_, rfl⟩
    have HQ := hide hq
    have hql : (l ++ fromO n R x).length = q := by rw [← hq, ← hFX, natsO_ln]
    have hcl : (chB n R l x).length = CX.length := by rw [← hCX, natsO_ln]
    rw [hql, hcl] at HSX
    rw [hCX] at HBI ⊢
    cases hnx : nextB R l x
    ·have HN : Hid (natsO (chB n R l (x + 1)) = CX) := hide (by rw [HSX.out, hnx, ← hCX]; rfl)
     have hl0 : l ≠ [] := fun e => by rw [e] at hnx; cases hnx
     have HLN := hide (HLM.out hl0)
     have hra : R (lastO l) x = false := by
      unfold nextB at hnx
      rw [Bool.or_eq_false_iff] at hnx; exact hnx.2
     have hmp : 0 < m := by rw [← HM.out]; exact List.length_pos_iff.2 hl0
     clear hFX hCX hq hql hcl HSX hnx hl0
     obtain ⟨lb, lo, rfl, hca⟩ := intsR_at HLR.out (i := m - 1) (by rw [natsO_ln, HM.out]; omega)
     rw [natsO_getD, show l.getD (m - 1) 0 = lastO l by unfold lastO; rw [HM.out]] at hca
     obtain ⟨z, hz⟩ : ∃ z, lastO l = z := ⟨_, rfl⟩
     rw [hz] at hca hra HLN
     have hz8 : z < 8 := by have := HLN.out; omega
     have hz8I : (z : Int) < 8 := by omega
     have t0 := BM1.out.cell _ (relL_get R hz8 hx8)
     have hd0 : decide (0 < m) = true := decide_eq_true hmp
     have hd1 : (0 : Int) < (m : Int) := by omega
     have hwm : IntKind.i64.wrap ((m : Int) - 1) = (m : Int) - 1 := IntWalk.i64_in _ ⟨by omega, by omega⟩
     have hm0 : (0 : Int) ≤ (m : Int) - 1 := by omega
     have hmk : ((m : Int) - 1).toNat = m - 1 := by omega
     have hmn : (m : Int) - 1 < m := by omega
     clear hz
     rw [hra] at t0
     clear hra
     go_wp2_with fail
     clear t0 hca hd0 hd1 hwm hm0 hmk hmn
     go_roundw
     case rel => exact ⟨x + 1, _, by have := HX.out; omega, by go_num, rfl, by rw [HN.out]; exact HBI.out, HBR.out⟩
     case measure => have := HX.out; simp [intOf]; omega
    ·have HCN : Hid (CX.length < q → natsO (chB n R l (x + 1)) = FX) := hide (fun h => by rw [HSX.out, hnx, decide_eq_true h, ← hFX]; rfl)
     have HCO : Hid (¬ CX.length < q → natsO (chB n R l (x + 1)) = CX) := hide (fun h => by rw [HSX.out, hnx, decide_eq_false h, ← hCX]; rfl)
     have HCX : Hid (∀ W v, IntsIn W.cell? v (natsO l ++ [(x : Int)]) → Calls Tryd.prog 76 #[.int .i64 (n : Nat), relV R, v] W (fun e w' => ∃ v, e = .returned v ∧ IntsIn w'.cell? v FX ∧ Below W.heap.size W w')) := hide (fun W v hv => by
      have h := HIH.out x hlx hnx W v hv
      unfold ChQ at h
      rw [hFX] at h
      exact h)
     clear hFX hCX hq hql hcl HSX
     by_cases hl0 : m = 0
     ·subst hl0
      clear hnx
      go_upto_region 6 with (fail)
      refine wp_region_inv [some 32, some 33, some 34, some 35, some 36, some 37, some 38, some 39, some 40, some 41, some 42, some 43, some 9] (fun L vs W => match vs with | [x0, x1, x2, x3, x4, x5, x6, x7, x8, x9, x10, x11, x12] => (Below wr.heap.size wr W) ∧ (L 0 = true → x0 = .int .i64 (n : Nat)) ∧ (L 1 = true → x1 = relV R) ∧ (L 2 = true → x2 = .slice sa 0 sc) ∧ (L 3 = true → x3 = .slice sa 0 sc) ∧ (L 4 = true → x4 = .int .i64 0) ∧ (L 5 = true → x5 = .slice sa 0 sc) ∧ (L 6 = true → x6 = .int .i64 0) ∧ (L 7 = true → x7 = .slice sa 0 0) ∧ (L 8 = true → x8 = .int .i64 (x : Nat)) ∧ (L 9 = true → ∃ b0 : Nat, x9 = .slice (some ⟨b0, 0, none⟩) 1 1 ∧ Blk W b0 [.int .i64 x] 3) ∧ (L 10 = true → ∃ va vc, x10 = .slice va 1 vc ∧ IntsIn W.cell? (.slice va 1 vc) (natsO l ++ [(x : Int)])) ∧ (L 11 = true → ∃ va vc, x11 = .slice va q vc ∧ IntsIn W.cell? (.slice va q vc) FX) ∧ (L 12 = true → ∃ va vc, x12 = .slice va q vc ∧ IntsIn W.cell? (.slice va q vc) FX) | _ => False) [_, _, _, _, _, _, _, _, _, _, _, _, _] (by kernel_rfl) (by kernel_rfl) rfl (by simp only [puts, Act.put, List.setIfInBounds_toArray, List.set_cons_zero, List.set_cons_succ] <;> rfl) ?_ ?_ ?_
      ·exact ⟨(Below.refl _ _).drew, (fun h => by cases h), (fun h => by cases h), (fun h => by cases h), (fun h => by cases h), (fun h => by cases h), (fun h => by cases h), (fun h => by cases h), (fun h => by cases h), (fun h => by cases h), (fun h => by cases h), (fun h => by cases h), (fun h => by cases h), (fun h => by cases h)⟩
      ·refine ⟨?_, ?_, ?_, ?_, ?_, ?_, ?_, ?_, ?_, ?_, ?_, ?_, ?_, trivial⟩
       ·intro L vs W hlen hL hD hI K hK
        obtain ⟨x0, x1, x2, x3, x4, x5, x6, x7, x8, x9, x10, x11, x12, rfl⟩ := len13 hlen
        have hG := hI.1
        replace hI := hI.2
        have f0 := hide hI.1
        replace hI := hI.2
        have f1 := hide hI.1
        replace hI := hI.2
        have f2 := hide hI.1
        replace hI := hI.2
        have f3 := hide hI.1
        replace hI := hI.2
        have f4 := hide hI.1
        replace hI := hI.2
        have f5 := hide hI.1
        replace hI := hI.2
        have f6 := hide hI.1
        replace hI := hI.2
        have f7 := hide hI.1
        replace hI := hI.2
        have f8 := hide hI.1
        replace hI := hI.2
        have f9 := hide hI.1
        replace hI := hI.2
        have f10 := hide hI.1
        replace hI := hI.2
        have f11 := hide hI.1
        replace hI := hI.2
        have f12 := hide hI
        clear hI
        try simp only [puts, Act.put, List.setIfInBounds_toArray, List.set_cons_zero, List.set_cons_succ]
        try go_simp
        exact hK.out _ _ _ (by simp only [puts, Act.put, List.setIfInBounds_toArray, List.set_cons_zero, List.set_cons_succ] <;> rfl) ⟨hG, (fun _ => rfl), (fun h => f1.out h), (fun h => f2.out h), (fun h => f3.out h), (fun h => f4.out h), (fun h => f5.out h), (fun h => f6.out h), (fun h => f7.out h), (fun h => f8.out h), (fun h => f9.out h), (fun h => f10.out h), (fun h => f11.out h), (fun h => f12.out h)⟩
       ·intro L vs W hlen hL hD hI K hK
        obtain ⟨x0, x1, x2, x3, x4, x5, x6, x7, x8, x9, x10, x11, x12, rfl⟩ := len13 hlen
        have hG := hI.1
        replace hI := hI.2
        have f0 := hide hI.1
        replace hI := hI.2
        have f1 := hide hI.1
        replace hI := hI.2
        have f2 := hide hI.1
        replace hI := hI.2
        have f3 := hide hI.1
        replace hI := hI.2
        have f4 := hide hI.1
        replace hI := hI.2
        have f5 := hide hI.1
        replace hI := hI.2
        have f6 := hide hI.1
        replace hI := hI.2
        have f7 := hide hI.1
        replace hI := hI.2
        have f8 := hide hI.1
        replace hI := hI.2
        have f9 := hide hI.1
        replace hI := hI.2
        have f10 := hide hI.1
        replace hI := hI.2
        have f11 := hide hI.1
        replace hI := hI.2
        have f12 := hide hI
        clear hI
        try simp only [puts, Act.put, List.setIfInBounds_toArray, List.set_cons_zero, List.set_cons_succ]
        refine step_load_rel rfl _ rfl w.heap.size rfl R (BM1.out.later hG) ?_
        exact hK.out _ _ _ (by simp only [puts, Act.put, List.setIfInBounds_toArray, List.set_cons_zero, List.set_cons_succ] <;> rfl) ⟨hG, (fun h => f0.out h), (fun _ => rfl), (fun h => f2.out h), (fun h => f3.out h), (fun h => f4.out h), (fun h => f5.out h), (fun h => f6.out h), (fun h => f7.out h), (fun h => f8.out h), (fun h => f9.out h), (fun h => f10.out h), (fun h => f11.out h), (fun h => f12.out h)⟩
       ·intro L vs W hlen hL hD hI K hK
        obtain ⟨x0, x1, x2, x3, x4, x5, x6, x7, x8, x9, x10, x11, x12, rfl⟩ := len13 hlen
        have hG := hI.1
        replace hI := hI.2
        have f0 := hide hI.1
        replace hI := hI.2
        have f1 := hide hI.1
        replace hI := hI.2
        have f2 := hide hI.1
        replace hI := hI.2
        have f3 := hide hI.1
        replace hI := hI.2
        have f4 := hide hI.1
        replace hI := hI.2
        have f5 := hide hI.1
        replace hI := hI.2
        have f6 := hide hI.1
        replace hI := hI.2
        have f7 := hide hI.1
        replace hI := hI.2
        have f8 := hide hI.1
        replace hI := hI.2
        have f9 := hide hI.1
        replace hI := hI.2
        have f10 := hide hI.1
        replace hI := hI.2
        have f11 := hide hI.1
        replace hI := hI.2
        have f12 := hide hI
        clear hI
        try simp only [puts, Act.put, List.setIfInBounds_toArray, List.set_cons_zero, List.set_cons_succ]
        try go_simp
        exact hK.out _ _ _ (by simp only [puts, Act.put, List.setIfInBounds_toArray, List.set_cons_zero, List.set_cons_succ] <;> rfl) ⟨hG, (fun h => f0.out h), (fun h => f1.out h), (fun _ => rfl), (fun h => f3.out h), (fun h => f4.out h), (fun h => f5.out h), (fun h => f6.out h), (fun h => f7.out h), (fun h => f8.out h), (fun h => f9.out h), (fun h => f10.out h), (fun h => f11.out h), (fun h => f12.out h)⟩
       ·intro L vs W hlen hL hD hI K hK
        obtain ⟨x0, x1, x2, x3, x4, x5, x6, x7, x8, x9, x10, x11, x12, rfl⟩ := len13 hlen
        have hG := hI.1
        replace hI := hI.2
        have f0 := hide hI.1
        replace hI := hI.2
        have f1 := hide hI.1
        replace hI := hI.2
        have f2 := hide hI.1
        replace hI := hI.2
        have f3 := hide hI.1
        replace hI := hI.2
        have f4 := hide hI.1
        replace hI := hI.2
        have f5 := hide hI.1
        replace hI := hI.2
        have f6 := hide hI.1
        replace hI := hI.2
        have f7 := hide hI.1
        replace hI := hI.2
        have f8 := hide hI.1
        replace hI := hI.2
        have f9 := hide hI.1
        replace hI := hI.2
        have f10 := hide hI.1
        replace hI := hI.2
        have f11 := hide hI.1
        replace hI := hI.2
        have f12 := hide hI
        clear hI
        try simp only [puts, Act.put, List.setIfInBounds_toArray, List.set_cons_zero, List.set_cons_succ]
        try go_simp
        exact hK.out _ _ _ (by simp only [puts, Act.put, List.setIfInBounds_toArray, List.set_cons_zero, List.set_cons_succ] <;> rfl) ⟨hG, (fun h => f0.out h), (fun h => f1.out h), (fun h => f2.out h), (fun _ => rfl), (fun h => f4.out h), (fun h => f5.out h), (fun h => f6.out h), (fun h => f7.out h), (fun h => f8.out h), (fun h => f9.out h), (fun h => f10.out h), (fun h => f11.out h), (fun h => f12.out h)⟩
       ·intro L vs W hlen hL hD hI K hK
        obtain ⟨x0, x1, x2, x3, x4, x5, x6, x7, x8, x9, x10, x11, x12, rfl⟩ := len13 hlen
        have hG := hI.1
        replace hI := hI.2
        have f0 := hide hI.1
        replace hI := hI.2
        have f1 := hide hI.1
        replace hI := hI.2
        have f2 := hide hI.1
        replace hI := hI.2
        have f3 := hide hI.1
        replace hI := hI.2
        have f4 := hide hI.1
        replace hI := hI.2
        have f5 := hide hI.1
        replace hI := hI.2
        have f6 := hide hI.1
        replace hI := hI.2
        have f7 := hide hI.1
        replace hI := hI.2
        have f8 := hide hI.1
        replace hI := hI.2
        have f9 := hide hI.1
        replace hI := hI.2
        have f10 := hide hI.1
        replace hI := hI.2
        have f11 := hide hI.1
        replace hI := hI.2
        have f12 := hide hI
        clear hI
        obtain rfl := f3.out (hD.on 3 (by kernel_rfl))
        try simp only [puts, Act.put, List.setIfInBounds_toArray, List.set_cons_zero, List.set_cons_succ]
        try go_simp
        exact hK.out _ _ _ (by simp only [puts, Act.put, List.setIfInBounds_toArray, List.set_cons_zero, List.set_cons_succ] <;> rfl) ⟨hG, (fun h => f0.out h), (fun h => f1.out h), (fun h => f2.out h), (fun h => f3.out h), (fun _ => rfl), (fun h => f5.out h), (fun h => f6.out h), (fun h => f7.out h), (fun h => f8.out h), (fun h => f9.out h), (fun h => f10.out h), (fun h => f11.out h), (fun h => f12.out h)⟩
       ·intro L vs W hlen hL hD hI K hK
        obtain ⟨x0, x1, x2, x3, x4, x5, x6, x7, x8, x9, x10, x11, x12, rfl⟩ := len13 hlen
        have hG := hI.1
        replace hI := hI.2
        have f0 := hide hI.1
        replace hI := hI.2
        have f1 := hide hI.1
        replace hI := hI.2
        have f2 := hide hI.1
        replace hI := hI.2
        have f3 := hide hI.1
        replace hI := hI.2
        have f4 := hide hI.1
        replace hI := hI.2
        have f5 := hide hI.1
        replace hI := hI.2
        have f6 := hide hI.1
        replace hI := hI.2
        have f7 := hide hI.1
        replace hI := hI.2
        have f8 := hide hI.1
        replace hI := hI.2
        have f9 := hide hI.1
        replace hI := hI.2
        have f10 := hide hI.1
        replace hI := hI.2
        have f11 := hide hI.1
        replace hI := hI.2
        have f12 := hide hI
        clear hI
        try simp only [puts, Act.put, List.setIfInBounds_toArray, List.set_cons_zero, List.set_cons_succ]
        try go_simp
        exact hK.out _ _ _ (by simp only [puts, Act.put, List.setIfInBounds_toArray, List.set_cons_zero, List.set_cons_succ] <;> rfl) ⟨hG, (fun h => f0.out h), (fun h => f1.out h), (fun h => f2.out h), (fun h => f3.out h), (fun h => f4.out h), (fun _ => rfl), (fun h => f6.out h), (fun h => f7.out h), (fun h => f8.out h), (fun h => f9.out h), (fun h => f10.out h), (fun h => f11.out h), (fun h => f12.out h)⟩
       ·intro L vs W hlen hL hD hI K hK
        obtain ⟨x0, x1, x2, x3, x4, x5, x6, x7, x8, x9, x10, x11, x12, rfl⟩ := len13 hlen
        have hG := hI.1
        replace hI := hI.2
        have f0 := hide hI.1
        replace hI := hI.2
        have f1 := hide hI.1
        replace hI := hI.2
        have f2 := hide hI.1
        replace hI := hI.2
        have f3 := hide hI.1
        replace hI := hI.2
        have f4 := hide hI.1
        replace hI := hI.2
        have f5 := hide hI.1
        replace hI := hI.2
        have f6 := hide hI.1
        replace hI := hI.2
        have f7 := hide hI.1
        replace hI := hI.2
        have f8 := hide hI.1
        replace hI := hI.2
        have f9 := hide hI.1
        replace hI := hI.2
        have f10 := hide hI.1
        replace hI := hI.2
        have f11 := hide hI.1
        replace hI := hI.2
        have f12 := hide hI
        clear hI
        obtain rfl := f5.out (hD.on 5 (by kernel_rfl))
        try simp only [puts, Act.put, List.setIfInBounds_toArray, List.set_cons_zero, List.set_cons_succ]
        try go_simp
        exact hK.out _ _ _ (by simp only [puts, Act.put, List.setIfInBounds_toArray, List.set_cons_zero, List.set_cons_succ] <;> rfl) ⟨hG, (fun h => f0.out h), (fun h => f1.out h), (fun h => f2.out h), (fun h => f3.out h), (fun h => f4.out h), (fun h => f5.out h), (fun _ => rfl), (fun h => f7.out h), (fun h => f8.out h), (fun h => f9.out h), (fun h => f10.out h), (fun h => f11.out h), (fun h => f12.out h)⟩
       ·intro L vs W hlen hL hD hI K hK
        obtain ⟨x0, x1, x2, x3, x4, x5, x6, x7, x8, x9, x10, x11, x12, rfl⟩ := len13 hlen
        have hG := hI.1
        replace hI := hI.2
        have f0 := hide hI.1
        replace hI := hI.2
        have f1 := hide hI.1
        replace hI := hI.2
        have f2 := hide hI.1
        replace hI := hI.2
        have f3 := hide hI.1
        replace hI := hI.2
        have f4 := hide hI.1
        replace hI := hI.2
        have f5 := hide hI.1
        replace hI := hI.2
        have f6 := hide hI.1
        replace hI := hI.2
        have f7 := hide hI.1
        replace hI := hI.2
        have f8 := hide hI.1
        replace hI := hI.2
        have f9 := hide hI.1
        replace hI := hI.2
        have f10 := hide hI.1
        replace hI := hI.2
        have f11 := hide hI.1
        replace hI := hI.2
        have f12 := hide hI
        clear hI
        obtain rfl := f2.out (hD.on 2 (by kernel_rfl))
        obtain rfl := f4.out (hD.on 4 (by kernel_rfl))
        obtain rfl := f6.out (hD.on 6 (by kernel_rfl))
        try simp only [puts, Act.put, List.setIfInBounds_toArray, List.set_cons_zero, List.set_cons_succ]
        try go_simp
        exact hK.out _ _ _ (by simp only [puts, Act.put, List.setIfInBounds_toArray, List.set_cons_zero, List.set_cons_succ] <;> rfl) ⟨hG, (fun h => f0.out h), (fun h => f1.out h), (fun h => f2.out h), (fun h => f3.out h), (fun h => f4.out h), (fun h => f5.out h), (fun h => f6.out h), (fun _ => rfl), (fun h => f8.out h), (fun h => f9.out h), (fun h => f10.out h), (fun h => f11.out h), (fun h => f12.out h)⟩
       ·intro L vs W hlen hL hD hI K hK
        obtain ⟨x0, x1, x2, x3, x4, x5, x6, x7, x8, x9, x10, x11, x12, rfl⟩ := len13 hlen
        have hG := hI.1
        replace hI := hI.2
        have f0 := hide hI.1
        replace hI := hI.2
        have f1 := hide hI.1
        replace hI := hI.2
        have f2 := hide hI.1
        replace hI := hI.2
        have f3 := hide hI.1
        replace hI := hI.2
        have f4 := hide hI.1
        replace hI := hI.2
        have f5 := hide hI.1
        replace hI := hI.2
        have f6 := hide hI.1
        replace hI := hI.2
        have f7 := hide hI.1
        replace hI := hI.2
        have f8 := hide hI.1
        replace hI := hI.2
        have f9 := hide hI.1
        replace hI := hI.2
        have f10 := hide hI.1
        replace hI := hI.2
        have f11 := hide hI.1
        replace hI := hI.2
        have f12 := hide hI
        clear hI
        try simp only [puts, Act.put, List.setIfInBounds_toArray, List.set_cons_zero, List.set_cons_succ]
        try go_simp
        exact hK.out _ _ _ (by simp only [puts, Act.put, List.setIfInBounds_toArray, List.set_cons_zero, List.set_cons_succ] <;> rfl) ⟨hG, (fun h => f0.out h), (fun h => f1.out h), (fun h => f2.out h), (fun h => f3.out h), (fun h => f4.out h), (fun h => f5.out h), (fun h => f6.out h), (fun h => f7.out h), (fun _ => rfl), (fun h => f9.out h), (fun h => f10.out h), (fun h => f11.out h), (fun h => f12.out h)⟩
       ·intro L vs W hlen hL hD hI K hK
        obtain ⟨x0, x1, x2, x3, x4, x5, x6, x7, x8, x9, x10, x11, x12, rfl⟩ := len13 hlen
        have hG := hI.1
        replace hI := hI.2
        have f0 := hide hI.1
        replace hI := hI.2
        have f1 := hide hI.1
        replace hI := hI.2
        have f2 := hide hI.1
        replace hI := hI.2
        have f3 := hide hI.1
        replace hI := hI.2
        have f4 := hide hI.1
        replace hI := hI.2
        have f5 := hide hI.1
        replace hI := hI.2
        have f6 := hide hI.1
        replace hI := hI.2
        have f7 := hide hI.1
        replace hI := hI.2
        have f8 := hide hI.1
        replace hI := hI.2
        have f9 := hide hI.1
        replace hI := hI.2
        have f10 := hide hI.1
        replace hI := hI.2
        have f11 := hide hI.1
        replace hI := hI.2
        have f12 := hide hI
        clear hI
        obtain rfl := f8.out (hD.on 8 (by kernel_rfl))
        try simp only [puts, Act.put, List.setIfInBounds_toArray, List.set_cons_zero, List.set_cons_succ]
        try go_simp
        generalize hW' : World.alloc W _ = W'
        have hb : Below W.heap.size W W' := by rw [← hW']; exact bal W _
        exact hK.out _ _ _ (by simp only [puts, Act.put, List.setIfInBounds_toArray, List.set_cons_zero, List.set_cons_succ] <;> rfl) ⟨below2 hG hb, (fun h => f0.out h), (fun h => f1.out h), (fun h => f2.out h), (fun h => f3.out h), (fun h => f4.out h), (fun h => f5.out h), (fun h => f6.out h), (fun h => f7.out h), (fun h => f8.out h), (fun _ => ⟨W.heap.size, rfl, by rw [← hW']; exact Blk.newA W _ rfl⟩), (fun h => (fun h => let ⟨va, vc, e, k⟩ := h; ⟨va, vc, e, ints_low k hb⟩) (f10.out h)), (fun h => (fun h => let ⟨va, vc, e, k⟩ := h; ⟨va, vc, e, ints_low k hb⟩) (f11.out h)), (fun h => (fun h => let ⟨va, vc, e, k⟩ := h; ⟨va, vc, e, ints_low k hb⟩) (f12.out h))⟩
       ·intro L vs W hlen hL hD hI K hK
        obtain ⟨x0, x1, x2, x3, x4, x5, x6, x7, x8, x9, x10, x11, x12, rfl⟩ := len13 hlen
        have hG := hI.1
        replace hI := hI.2
        have f0 := hide hI.1
        replace hI := hI.2
        have f1 := hide hI.1
        replace hI := hI.2
        have f2 := hide hI.1
        replace hI := hI.2
        have f3 := hide hI.1
        replace hI := hI.2
        have f4 := hide hI.1
        replace hI := hI.2
        have f5 := hide hI.1
        replace hI := hI.2
        have f6 := hide hI.1
        replace hI := hI.2
        have f7 := hide hI.1
        replace hI := hI.2
        have f8 := hide hI.1
        replace hI := hI.2
        have f9 := hide hI.1
        replace hI := hI.2
        have f10 := hide hI.1
        replace hI := hI.2
        have f11 := hide hI.1
        replace hI := hI.2
        have f12 := hide hI
        clear hI
        obtain rfl := f7.out (hD.on 7 (by kernel_rfl))
        have g9 := f9.out (hD.on 9 (by kernel_rfl))
        try simp only [puts, Act.put, List.setIfInBounds_toArray, List.set_cons_zero, List.set_cons_succ]
        obtain ⟨b0, rfl, hB0⟩ := g9
        refine step_cut1 rfl _ _ rfl sa 0 (natsO l) rfl (ints_low HCT.out hG) b0 (x : Int) rfl hB0 hm1 ?_
        intro va vc W' hI hb
        exact hK.out _ _ _ (by simp only [puts, Act.put, List.setIfInBounds_toArray, List.set_cons_zero, List.set_cons_succ] <;> rfl) ⟨below2 hG hb, (fun h => f0.out h), (fun h => f1.out h), (fun h => f2.out h), (fun h => f3.out h), (fun h => f4.out h), (fun h => f5.out h), (fun h => f6.out h), (fun h => f7.out h), (fun h => f8.out h), (fun h => (fun h => let ⟨b0, e, k⟩ := h; ⟨b0, e, k.later hb⟩) (f9.out h)), (fun _ => ⟨va, vc, rfl, hI⟩), (fun h => (fun h => let ⟨va, vc, e, k⟩ := h; ⟨va, vc, e, ints_low k hb⟩) (f11.out h)), (fun h => (fun h => let ⟨va, vc, e, k⟩ := h; ⟨va, vc, e, ints_low k hb⟩) (f12.out h))⟩
       ·intro L vs W hlen hL hD hI K hK
        obtain ⟨x0, x1, x2, x3, x4, x5, x6, x7, x8, x9, x10, x11, x12, rfl⟩ := len13 hlen
        have hG := hI.1
        replace hI := hI.2
        have f0 := hide hI.1
        replace hI := hI.2
        have f1 := hide hI.1
        replace hI := hI.2
        have f2 := hide hI.1
        replace hI := hI.2
        have f3 := hide hI.1
        replace hI := hI.2
        have f4 := hide hI.1
        replace hI := hI.2
        have f5 := hide hI.1
        replace hI := hI.2
        have f6 := hide hI.1
        replace hI := hI.2
        have f7 := hide hI.1
        replace hI := hI.2
        have f8 := hide hI.1
        replace hI := hI.2
        have f9 := hide hI.1
        replace hI := hI.2
        have f10 := hide hI.1
        replace hI := hI.2
        have f11 := hide hI.1
        replace hI := hI.2
        have f12 := hide hI
        clear hI
        obtain rfl := f0.out (hD.on 0 (by kernel_rfl))
        obtain rfl := f1.out (hD.on 1 (by kernel_rfl))
        have g10 := f10.out (hD.on 10 (by kernel_rfl))
        try simp only [puts, Act.put, List.setIfInBounds_toArray, List.set_cons_zero, List.set_cons_succ]
        obtain ⟨va, vc, rfl, hI⟩ := g10
        have HC1 := hide (HCX.out W _ hI)
        go_simp
        refine HC1.out.mono ?_
        rintro e W' ⟨v, rfl, hv, hb⟩
        obtain ⟨va2, vc2, rfl, -, -, -⟩ := id hv
        rw [HQ.out] at hv
        try go_simp
        exact hK.out _ _ _ (by simp only [puts, Act.put, List.setIfInBounds_toArray, List.set_cons_zero, List.set_cons_succ] <;> rfl) ⟨below2 hG hb, (fun h => f0.out h), (fun h => f1.out h), (fun h => f2.out h), (fun h => f3.out h), (fun h => f4.out h), (fun h => f5.out h), (fun h => f6.out h), (fun h => f7.out h), (fun h => f8.out h), (fun h => (fun h => let ⟨b0, e, k⟩ := h; ⟨b0, e, k.later hb⟩) (f9.out h)), (fun h => (fun h => let ⟨va, vc, e, k⟩ := h; ⟨va, vc, e, ints_low k hb⟩) (f10.out h)), (fun _ => ⟨_, _, by rw [HQ.out], hv⟩), (fun h => (fun h => let ⟨va, vc, e, k⟩ := h; ⟨va, vc, e, ints_low k hb⟩) (f12.out h))⟩
       ·intro L vs W hlen hL hD hI K hK
        obtain ⟨x0, x1, x2, x3, x4, x5, x6, x7, x8, x9, x10, x11, x12, rfl⟩ := len13 hlen
        have hG := hI.1
        replace hI := hI.2
        have f0 := hide hI.1
        replace hI := hI.2
        have f1 := hide hI.1
        replace hI := hI.2
        have f2 := hide hI.1
        replace hI := hI.2
        have f3 := hide hI.1
        replace hI := hI.2
        have f4 := hide hI.1
        replace hI := hI.2
        have f5 := hide hI.1
        replace hI := hI.2
        have f6 := hide hI.1
        replace hI := hI.2
        have f7 := hide hI.1
        replace hI := hI.2
        have f8 := hide hI.1
        replace hI := hI.2
        have f9 := hide hI.1
        replace hI := hI.2
        have f10 := hide hI.1
        replace hI := hI.2
        have f11 := hide hI.1
        replace hI := hI.2
        have f12 := hide hI
        clear hI
        have g11 := f11.out (hD.on 11 (by kernel_rfl))
        try simp only [puts, Act.put, List.setIfInBounds_toArray, List.set_cons_zero, List.set_cons_succ]
        obtain ⟨va, vc, rfl, hI⟩ := g11
        go_simp
        exact hK.out _ _ _ (by simp only [puts, Act.put, List.setIfInBounds_toArray, List.set_cons_zero, List.set_cons_succ] <;> rfl) ⟨hG, (fun h => f0.out h), (fun h => f1.out h), (fun h => f2.out h), (fun h => f3.out h), (fun h => f4.out h), (fun h => f5.out h), (fun h => f6.out h), (fun h => f7.out h), (fun h => f8.out h), (fun h => f9.out h), (fun h => f10.out h), (fun h => f11.out h), (fun _ => ⟨va, vc, rfl, hI⟩)⟩
      intro L vs W hlen hall hI
      obtain ⟨x0, x1, x2, x3, x4, x5, x6, x7, x8, x9, x10, x11, x12, rfl⟩ := len13 hlen
      have hG := hI.1
      replace hI := hI.2
      have f0 := hide hI.1
      replace hI := hI.2
      have f1 := hide hI.1
      replace hI := hI.2
      have f2 := hide hI.1
      replace hI := hI.2
      have f3 := hide hI.1
      replace hI := hI.2
      have f4 := hide hI.1
      replace hI := hI.2
      have f5 := hide hI.1
      replace hI := hI.2
      have f6 := hide hI.1
      replace hI := hI.2
      have f7 := hide hI.1
      replace hI := hI.2
      have f8 := hide hI.1
      replace hI := hI.2
      have f9 := hide hI.1
      replace hI := hI.2
      have f10 := hide hI.1
      replace hI := hI.2
      have f11 := hide hI.1
      replace hI := hI.2
      have f12 := hide hI
      clear hI
      obtain rfl := f0.out (hall 0 (by decide))
      obtain rfl := f1.out (hall 1 (by decide))
      obtain rfl := f2.out (hall 2 (by decide))
      obtain rfl := f3.out (hall 3 (by decide))
      obtain rfl := f4.out (hall 4 (by decide))
      obtain rfl := f5.out (hall 5 (by decide))
      obtain rfl := f6.out (hall 6 (by decide))
      obtain rfl := f7.out (hall 7 (by decide))
      obtain rfl := f8.out (hall 8 (by decide))
      have g9 := f9.out (hall 9 (by decide))
      have g10 := f10.out (hall 10 (by decide))
      have g11 := f11.out (hall 11 (by decide))
      have g12 := f12.out (hall 12 (by decide))
      have hal := hide hall
      clear hall f0 f1 f2 f3 f4 f5 f6 f7 f8 f9 f10 f11 f12
      try simp only [puts, Act.put, List.setIfInBounds_toArray, List.set_cons_zero, List.set_cons_succ]
      obtain ⟨_, rfl, -⟩ := g9
      obtain ⟨_, _, rfl, -⟩ := g10
      obtain ⟨_, _, rfl, -⟩ := g11
      obtain ⟨va, vc, rfl, hI⟩ := g12
      have HIF := hide hI
      have HIB := hide (ints_low HBI.out hG)
      have HBF := hide (HBR.out.trans (hG.mono HBR.out.size))
      clear hI hG hal
      by_cases hq : (CX : List Int).length < q
      ·have hqd : decide ((CX : List Int).length < q) = true := decide_eq_true hq
       have HN := hide (HCN.out hq)
       clear hq
       go_wp2_with fail
       clear hqd
       go_roundw
       case rel => exact ⟨x + 1, _, by have := HX.out; omega, by go_num, rfl, by rw [HN.out]; exact HIF.out, HBF.out⟩
       case measure => have := HX.out; simp [intOf]; omega
      ·have hqd : decide ((CX : List Int).length < q) = false := decide_eq_false hq
       have HN := hide (HCO.out hq)
       clear hq
       go_wp2_with fail
       clear hqd
       go_roundw
       case rel => exact ⟨x + 1, _, by have := HX.out; omega, by go_num, rfl, by rw [HN.out]; exact HIB.out, HBF.out⟩
       case measure => have := HX.out; simp [intOf]; omega
     ·have hl0' : l ≠ [] := fun e => hl0 (by rw [← HM.out, e]; rfl)
      have HLN := hide (HLM.out hl0')
      have hra : R (lastO l) x = true := by
       unfold nextB at hnx
       cases l with
       | nil => exact absurd rfl hl0'
       | cons => simpa using hnx
      have hmp : 0 < m := by omega
      clear hnx hl0 hl0'
      obtain ⟨lb, lo, rfl, hca⟩ := intsR_at HLR.out (i := m - 1) (by rw [natsO_ln, HM.out]; omega)
      rw [natsO_getD, show l.getD (m - 1) 0 = lastO l by unfold lastO; rw [HM.out]] at hca
      obtain ⟨z, hz⟩ : ∃ z, lastO l = z := ⟨_, rfl⟩
      rw [hz] at hca hra HLN
      have hz8 : z < 8 := by have := HLN.out; omega
      have hz8I : (z : Int) < 8 := by omega
      have t0 := BM1.out.cell _ (relL_get R hz8 hx8)
      have hd0 : decide (0 < m) = true := decide_eq_true hmp
      have hd1 : (0 : Int) < (m : Int) := by omega
      have hwm : IntKind.i64.wrap ((m : Int) - 1) = (m : Int) - 1 := IntWalk.i64_in _ ⟨by omega, by omega⟩
      have hm0 : (0 : Int) ≤ (m : Int) - 1 := by omega
      have hmk : ((m : Int) - 1).toNat = m - 1 := by omega
      have hmn : (m : Int) - 1 < m := by omega
      clear hz
      rw [hra] at t0
      clear hra
      go_upto_region 6 with (fail)
      refine wp_region_inv [some 32, some 33, some 34, some 35, some 36, some 37, some 38, some 39, some 40, some 41, some 42, some 43, some 9] (fun L vs W => match vs with | [x0, x1, x2, x3, x4, x5, x6, x7, x8, x9, x10, x11, x12] => (Below wr.heap.size wr W) ∧ (L 0 = true → x0 = .int .i64 (n : Nat)) ∧ (L 1 = true → x1 = relV R) ∧ (L 2 = true → x2 = .slice (some ⟨lb, lo, none⟩) m sc) ∧ (L 3 = true → x3 = .slice (some ⟨lb, lo, none⟩) m sc) ∧ (L 4 = true → x4 = .int .i64 (m : Nat)) ∧ (L 5 = true → x5 = .slice (some ⟨lb, lo, none⟩) m sc) ∧ (L 6 = true → x6 = .int .i64 (m : Nat)) ∧ (L 7 = true → x7 = .slice (some ⟨lb, lo, none⟩) m m) ∧ (L 8 = true → x8 = .int .i64 (x : Nat)) ∧ (L 9 = true → ∃ b0 : Nat, x9 = .slice (some ⟨b0, 0, none⟩) 1 1 ∧ Blk W b0 [.int .i64 x] 3) ∧ (L 10 = true → ∃ va vc, x10 = .slice va (m + 1) vc ∧ IntsIn W.cell? (.slice va (m + 1) vc) (natsO l ++ [(x : Int)])) ∧ (L 11 = true → ∃ va vc, x11 = .slice va q vc ∧ IntsIn W.cell? (.slice va q vc) FX) ∧ (L 12 = true → ∃ va vc, x12 = .slice va q vc ∧ IntsIn W.cell? (.slice va q vc) FX) | _ => False) [_, _, _, _, _, _, _, _, _, _, _, _, _] (by kernel_rfl) (by kernel_rfl) rfl (by simp only [puts, Act.put, List.setIfInBounds_toArray, List.set_cons_zero, List.set_cons_succ] <;> rfl) ?_ ?_ ?_
      ·exact ⟨(Below.refl _ _).drew, (fun h => by cases h), (fun h => by cases h), (fun h => by cases h), (fun h => by cases h), (fun h => by cases h), (fun h => by cases h), (fun h => by cases h), (fun h => by cases h), (fun h => by cases h), (fun h => by cases h), (fun h => by cases h), (fun h => by cases h), (fun h => by cases h)⟩
      ·refine ⟨?_, ?_, ?_, ?_, ?_, ?_, ?_, ?_, ?_, ?_, ?_, ?_, ?_, trivial⟩
       ·intro L vs W hlen hL hD hI K hK
        obtain ⟨x0, x1, x2, x3, x4, x5, x6, x7, x8, x9, x10, x11, x12, rfl⟩ := len13 hlen
        have hG := hI.1
        replace hI := hI.2
        have f0 := hide hI.1
        replace hI := hI.2
        have f1 := hide hI.1
        replace hI := hI.2
        have f2 := hide hI.1
        replace hI := hI.2
        have f3 := hide hI.1
        replace hI := hI.2
        have f4 := hide hI.1
        replace hI := hI.2
        have f5 := hide hI.1
        replace hI := hI.2
        have f6 := hide hI.1
        replace hI := hI.2
        have f7 := hide hI.1
        replace hI := hI.2
        have f8 := hide hI.1
        replace hI := hI.2
        have f9 := hide hI.1
        replace hI := hI.2
        have f10 := hide hI.1
        replace hI := hI.2
        have f11 := hide hI.1
        replace hI := hI.2
        have f12 := hide hI
        clear hI
        try simp only [puts, Act.put, List.setIfInBounds_toArray, List.set_cons_zero, List.set_cons_succ]
        try go_simp
        exact hK.out _ _ _ (by simp only [puts, Act.put, List.setIfInBounds_toArray, List.set_cons_zero, List.set_cons_succ] <;> rfl) ⟨hG, (fun _ => rfl), (fun h => f1.out h), (fun h => f2.out h), (fun h => f3.out h), (fun h => f4.out h), (fun h => f5.out h), (fun h => f6.out h), (fun h => f7.out h), (fun h => f8.out h), (fun h => f9.out h), (fun h => f10.out h), (fun h => f11.out h), (fun h => f12.out h)⟩
       ·intro L vs W hlen hL hD hI K hK
        obtain ⟨x0, x1, x2, x3, x4, x5, x6, x7, x8, x9, x10, x11, x12, rfl⟩ := len13 hlen
        have hG := hI.1
        replace hI := hI.2
        have f0 := hide hI.1
        replace hI := hI.2
        have f1 := hide hI.1
        replace hI := hI.2
        have f2 := hide hI.1
        replace hI := hI.2
        have f3 := hide hI.1
        replace hI := hI.2
        have f4 := hide hI.1
        replace hI := hI.2
        have f5 := hide hI.1
        replace hI := hI.2
        have f6 := hide hI.1
        replace hI := hI.2
        have f7 := hide hI.1
        replace hI := hI.2
        have f8 := hide hI.1
        replace hI := hI.2
        have f9 := hide hI.1
        replace hI := hI.2
        have f10 := hide hI.1
        replace hI := hI.2
        have f11 := hide hI.1
        replace hI := hI.2
        have f12 := hide hI
        clear hI
        try simp only [puts, Act.put, List.setIfInBounds_toArray, List.set_cons_zero, List.set_cons_succ]
        refine step_load_rel rfl _ rfl w.heap.size rfl R (BM1.out.later hG) ?_
        exact hK.out _ _ _ (by simp only [puts, Act.put, List.setIfInBounds_toArray, List.set_cons_zero, List.set_cons_succ] <;> rfl) ⟨hG, (fun h => f0.out h), (fun _ => rfl), (fun h => f2.out h), (fun h => f3.out h), (fun h => f4.out h), (fun h => f5.out h), (fun h => f6.out h), (fun h => f7.out h), (fun h => f8.out h), (fun h => f9.out h), (fun h => f10.out h), (fun h => f11.out h), (fun h => f12.out h)⟩
       ·intro L vs W hlen hL hD hI K hK
        obtain ⟨x0, x1, x2, x3, x4, x5, x6, x7, x8, x9, x10, x11, x12, rfl⟩ := len13 hlen
        have hG := hI.1
        replace hI := hI.2
        have f0 := hide hI.1
        replace hI := hI.2
        have f1 := hide hI.1
        replace hI := hI.2
        have f2 := hide hI.1
        replace hI := hI.2
        have f3 := hide hI.1
        replace hI := hI.2
        have f4 := hide hI.1
        replace hI := hI.2
        have f5 := hide hI.1
        replace hI := hI.2
        have f6 := hide hI.1
        replace hI := hI.2
        have f7 := hide hI.1
        replace hI := hI.2
        have f8 := hide hI.1
        replace hI := hI.2
        have f9 := hide hI.1
        replace hI := hI.2
        have f10 := hide hI.1
        replace hI := hI.2
        have f11 := hide hI.1
        replace hI := hI.2
        have f12 := hide hI
        clear hI
        try simp only [puts, Act.put, List.setIfInBounds_toArray, List.set_cons_zero, List.set_cons_succ]
        try go_simp
        exact hK.out _ _ _ (by simp only [puts, Act.put, List.setIfInBounds_toArray, List.set_cons_zero, List.set_cons_succ] <;> rfl) ⟨hG, (fun h => f0.out h), (fun h => f1.out h), (fun _ => rfl), (fun h => f3.out h), (fun h => f4.out h), (fun h => f5.out h), (fun h => f6.out h), (fun h => f7.out h), (fun h => f8.out h), (fun h => f9.out h), (fun h => f10.out h), (fun h => f11.out h), (fun h => f12.out h)⟩
       ·intro L vs W hlen hL hD hI K hK
        obtain ⟨x0, x1, x2, x3, x4, x5, x6, x7, x8, x9, x10, x11, x12, rfl⟩ := len13 hlen
        have hG := hI.1
        replace hI := hI.2
        have f0 := hide hI.1
        replace hI := hI.2
        have f1 := hide hI.1
        replace hI := hI.2
        have f2 := hide hI.1
        replace hI := hI.2
        have f3 := hide hI.1
        replace hI := hI.2
        have f4 := hide hI.1
        replace hI := hI.2
        have f5 := hide hI.1
        replace hI := hI.2
        have f6 := hide hI.1
        replace hI := hI.2
        have f7 := hide hI.1
        replace hI := hI.2
        have f8 := hide hI.1
        replace hI := hI.2
        have f9 := hide hI.1
        replace hI := hI.2
        have f10 := hide hI.1
        replace hI := hI.2
        have f11 := hide hI.1
        replace hI := hI.2
        have f12 := hide hI
        clear hI
        try simp only [puts, Act.put, List.setIfInBounds_toArray, List.set_cons_zero, List.set_cons_succ]
        try go_simp
        exact hK.out _ _ _ (by simp only [puts, Act.put, List.setIfInBounds_toArray, List.set_cons_zero, List.set_cons_succ] <;> rfl) ⟨hG, (fun h => f0.out h), (fun h => f1.out h), (fun h => f2.out h), (fun _ => rfl), (fun h => f4.out h), (fun h => f5.out h), (fun h => f6.out h), (fun h => f7.out h), (fun h => f8.out h), (fun h => f9.out h), (fun h => f10.out h), (fun h => f11.out h), (fun h => f12.out h)⟩
       ·intro L vs W hlen hL hD hI K hK
        obtain ⟨x0, x1, x2, x3, x4, x5, x6, x7, x8, x9, x10, x11, x12, rfl⟩ := len13 hlen
        have hG := hI.1
        replace hI := hI.2
        have f0 := hide hI.1
        replace hI := hI.2
        have f1 := hide hI.1
        replace hI := hI.2
        have f2 := hide hI.1
        replace hI := hI.2
        have f3 := hide hI.1
        replace hI := hI.2
        have f4 := hide hI.1
        replace hI := hI.2
        have f5 := hide hI.1
        replace hI := hI.2
        have f6 := hide hI.1
        replace hI := hI.2
        have f7 := hide hI.1
        replace hI := hI.2
        have f8 := hide hI.1
        replace hI := hI.2
        have f9 := hide hI.1
        replace hI := hI.2
        have f10 := hide hI.1
        replace hI := hI.2
        have f11 := hide hI.1
        replace hI := hI.2
        have f12 := hide hI
        clear hI
        obtain rfl := f3.out (hD.on 3 (by kernel_rfl))
        try simp only [puts, Act.put, List.setIfInBounds_toArray, List.set_cons_zero, List.set_cons_succ]
        try go_simp
        exact hK.out _ _ _ (by simp only [puts, Act.put, List.setIfInBounds_toArray, List.set_cons_zero, List.set_cons_succ] <;> rfl) ⟨hG, (fun h => f0.out h), (fun h => f1.out h), (fun h => f2.out h), (fun h => f3.out h), (fun _ => rfl), (fun h => f5.out h), (fun h => f6.out h), (fun h => f7.out h), (fun h => f8.out h), (fun h => f9.out h), (fun h => f10.out h), (fun h => f11.out h), (fun h => f12.out h)⟩
       ·intro L vs W hlen hL hD hI K hK
        obtain ⟨x0, x1, x2, x3, x4, x5, x6, x7, x8, x9, x10, x11, x12, rfl⟩ := len13 hlen
        have hG := hI.1
        replace hI := hI.2
        have f0 := hide hI.1
        replace hI := hI.2
        have f1 := hide hI.1
        replace hI := hI.2
        have f2 := hide hI.1
        replace hI := hI.2
        have f3 := hide hI.1
        replace hI := hI.2
        have f4 := hide hI.1
        replace hI := hI.2
        have f5 := hide hI.1
        replace hI := hI.2
        have f6 := hide hI.1
        replace hI := hI.2
        have f7 := hide hI.1
        replace hI := hI.2
        have f8 := hide hI.1
        replace hI := hI.2
        have f9 := hide hI.1
        replace hI := hI.2
        have f10 := hide hI.1
        replace hI := hI.2
        have f11 := hide hI.1
        replace hI := hI.2
        have f12 := hide hI
        clear hI
        try simp only [puts, Act.put, List.setIfInBounds_toArray, List.set_cons_zero, List.set_cons_succ]
        try go_simp
        exact hK.out _ _ _ (by simp only [puts, Act.put, List.setIfInBounds_toArray, List.set_cons_zero, List.set_cons_succ] <;> rfl) ⟨hG, (fun h => f0.out h), (fun h => f1.out h), (fun h => f2.out h), (fun h => f3.out h), (fun h => f4.out h), (fun _ => rfl), (fun h => f6.out h), (fun h => f7.out h), (fun h => f8.out h), (fun h => f9.out h), (fun h => f10.out h), (fun h => f11.out h), (fun h => f12.out h)⟩
       ·intro L vs W hlen hL hD hI K hK
        obtain ⟨x0, x1, x2, x3, x4, x5, x6, x7, x8, x9, x10, x11, x12, rfl⟩ := len13 hlen
        have hG := hI.1
        replace hI := hI.2
        have f0 := hide hI.1
        replace hI := hI.2
        have f1 := hide hI.1
        replace hI := hI.2
        have f2 := hide hI.1
        replace hI := hI.2
        have f3 := hide hI.1
        replace hI := hI.2
        have f4 := hide hI.1
        replace hI := hI.2
        have f5 := hide hI.1
        replace hI := hI.2
        have f6 := hide hI.1
        replace hI := hI.2
        have f7 := hide hI.1
        replace hI := hI.2
        have f8 := hide hI.1
        replace hI := hI.2
        have f9 := hide hI.1
        replace hI := hI.2
        have f10 := hide hI.1
        replace hI := hI.2
        have f11 := hide hI.1
        replace hI := hI.2
        have f12 := hide hI
        clear hI
        obtain rfl := f5.out (hD.on 5 (by kernel_rfl))
        try simp only [puts, Act.put, List.setIfInBounds_toArray, List.set_cons_zero, List.set_cons_succ]
        try go_simp
        exact hK.out _ _ _ (by simp only [puts, Act.put, List.setIfInBounds_toArray, List.set_cons_zero, List.set_cons_succ] <;> rfl) ⟨hG, (fun h => f0.out h), (fun h => f1.out h), (fun h => f2.out h), (fun h => f3.out h), (fun h => f4.out h), (fun h => f5.out h), (fun _ => rfl), (fun h => f7.out h), (fun h => f8.out h), (fun h => f9.out h), (fun h => f10.out h), (fun h => f11.out h), (fun h => f12.out h)⟩
       ·intro L vs W hlen hL hD hI K hK
        obtain ⟨x0, x1, x2, x3, x4, x5, x6, x7, x8, x9, x10, x11, x12, rfl⟩ := len13 hlen
        have hG := hI.1
        replace hI := hI.2
        have f0 := hide hI.1
        replace hI := hI.2
        have f1 := hide hI.1
        replace hI := hI.2
        have f2 := hide hI.1
        replace hI := hI.2
        have f3 := hide hI.1
        replace hI := hI.2
        have f4 := hide hI.1
        replace hI := hI.2
        have f5 := hide hI.1
        replace hI := hI.2
        have f6 := hide hI.1
        replace hI := hI.2
        have f7 := hide hI.1
        replace hI := hI.2
        have f8 := hide hI.1
        replace hI := hI.2
        have f9 := hide hI.1
        replace hI := hI.2
        have f10 := hide hI.1
        replace hI := hI.2
        have f11 := hide hI.1
        replace hI := hI.2
        have f12 := hide hI
        clear hI
        obtain rfl := f2.out (hD.on 2 (by kernel_rfl))
        obtain rfl := f4.out (hD.on 4 (by kernel_rfl))
        obtain rfl := f6.out (hD.on 6 (by kernel_rfl))
        try simp only [puts, Act.put, List.setIfInBounds_toArray, List.set_cons_zero, List.set_cons_succ]
        try go_simp
        exact hK.out _ _ _ (by simp only [puts, Act.put, List.setIfInBounds_toArray, List.set_cons_zero, List.set_cons_succ] <;> rfl) ⟨hG, (fun h => f0.out h), (fun h => f1.out h), (fun h => f2.out h), (fun h => f3.out h), (fun h => f4.out h), (fun h => f5.out h), (fun h => f6.out h), (fun _ => rfl), (fun h => f8.out h), (fun h => f9.out h), (fun h => f10.out h), (fun h => f11.out h), (fun h => f12.out h)⟩
       ·intro L vs W hlen hL hD hI K hK
        obtain ⟨x0, x1, x2, x3, x4, x5, x6, x7, x8, x9, x10, x11, x12, rfl⟩ := len13 hlen
        have hG := hI.1
        replace hI := hI.2
        have f0 := hide hI.1
        replace hI := hI.2
        have f1 := hide hI.1
        replace hI := hI.2
        have f2 := hide hI.1
        replace hI := hI.2
        have f3 := hide hI.1
        replace hI := hI.2
        have f4 := hide hI.1
        replace hI := hI.2
        have f5 := hide hI.1
        replace hI := hI.2
        have f6 := hide hI.1
        replace hI := hI.2
        have f7 := hide hI.1
        replace hI := hI.2
        have f8 := hide hI.1
        replace hI := hI.2
        have f9 := hide hI.1
        replace hI := hI.2
        have f10 := hide hI.1
        replace hI := hI.2
        have f11 := hide hI.1
        replace hI := hI.2
        have f12 := hide hI
        clear hI
        try simp only [puts, Act.put, List.setIfInBounds_toArray, List.set_cons_zero, List.set_cons_succ]
        try go_simp
        exact hK.out _ _ _ (by simp only [puts, Act.put, List.setIfInBounds_toArray, List.set_cons_zero, List.set_cons_succ] <;> rfl) ⟨hG, (fun h => f0.out h), (fun h => f1.out h), (fun h => f2.out h), (fun h => f3.out h), (fun h => f4.out h), (fun h => f5.out h), (fun h => f6.out h), (fun h => f7.out h), (fun _ => rfl), (fun h => f9.out h), (fun h => f10.out h), (fun h => f11.out h), (fun h => f12.out h)⟩
       ·intro L vs W hlen hL hD hI K hK
        obtain ⟨x0, x1, x2, x3, x4, x5, x6, x7, x8, x9, x10, x11, x12, rfl⟩ := len13 hlen
        have hG := hI.1
        replace hI := hI.2
        have f0 := hide hI.1
        replace hI := hI.2
        have f1 := hide hI.1
        replace hI := hI.2
        have f2 := hide hI.1
        replace hI := hI.2
        have f3 := hide hI.1
        replace hI := hI.2
        have f4 := hide hI.1
        replace hI := hI.2
        have f5 := hide hI.1
        replace hI := hI.2
        have f6 := hide hI.1
        replace hI := hI.2
        have f7 := hide hI.1
        replace hI := hI.2
        have f8 := hide hI.1
        replace hI := hI.2
        have f9 := hide hI.1
        replace hI := hI.2
        have f10 := hide hI.1
        replace hI := hI.2
        have f11 := hide hI.1
        replace hI := hI.2
        have f12 := hide hI
        clear hI
        obtain rfl := f8.out (hD.on 8 (by kernel_rfl))
        try simp only [puts, Act.put, List.setIfInBounds_toArray, List.set_cons_zero, List.set_cons_succ]
        try go_simp
        generalize hW' : World.alloc W _ = W'
        have hb : Below W.heap.size W W' := by rw [← hW']; exact bal W _
        exact hK.out _ _ _ (by simp only [puts, Act.put, List.setIfInBounds_toArray, List.set_cons_zero, List.set_cons_succ] <;> rfl) ⟨below2 hG hb, (fun h => f0.out h), (fun h => f1.out h), (fun h => f2.out h), (fun h => f3.out h), (fun h => f4.out h), (fun h => f5.out h), (fun h => f6.out h), (fun h => f7.out h), (fun h => f8.out h), (fun _ => ⟨W.heap.size, rfl, by rw [← hW']; exact Blk.newA W _ rfl⟩), (fun h => (fun h => let ⟨va, vc, e, k⟩ := h; ⟨va, vc, e, ints_low k hb⟩) (f10.out h)), (fun h => (fun h => let ⟨va, vc, e, k⟩ := h; ⟨va, vc, e, ints_low k hb⟩) (f11.out h)), (fun h => (fun h => let ⟨va, vc, e, k⟩ := h; ⟨va, vc, e, ints_low k hb⟩) (f12.out h))⟩
       ·intro L vs W hlen hL hD hI K hK
        obtain ⟨x0, x1, x2, x3, x4, x5, x6, x7, x8, x9, x10, x11, x12, rfl⟩ := len13 hlen
        have hG := hI.1
        replace hI := hI.2
        have f0 := hide hI.1
        replace hI := hI.2
        have f1 := hide hI.1
        replace hI := hI.2
        have f2 := hide hI.1
        replace hI := hI.2
        have f3 := hide hI.1
        replace hI := hI.2
        have f4 := hide hI.1
        replace hI := hI.2
        have f5 := hide hI.1
        replace hI := hI.2
        have f6 := hide hI.1
        replace hI := hI.2
        have f7 := hide hI.1
        replace hI := hI.2
        have f8 := hide hI.1
        replace hI := hI.2
        have f9 := hide hI.1
        replace hI := hI.2
        have f10 := hide hI.1
        replace hI := hI.2
        have f11 := hide hI.1
        replace hI := hI.2
        have f12 := hide hI
        clear hI
        obtain rfl := f7.out (hD.on 7 (by kernel_rfl))
        have g9 := f9.out (hD.on 9 (by kernel_rfl))
        try simp only [puts, Act.put, List.setIfInBounds_toArray, List.set_cons_zero, List.set_cons_succ]
        obtain ⟨b0, rfl, hB0⟩ := g9
        refine step_cut1 rfl _ _ rfl (some ⟨lb, lo, none⟩) m (natsO l) rfl (ints_low HCT.out hG) b0 (x : Int) rfl hB0 hm1 ?_
        intro va vc W' hI hb
        exact hK.out _ _ _ (by simp only [puts, Act.put, List.setIfInBounds_toArray, List.set_cons_zero, List.set_cons_succ] <;> rfl) ⟨below2 hG hb, (fun h => f0.out h), (fun h => f1.out h), (fun h => f2.out h), (fun h => f3.out h), (fun h => f4.out h), (fun h => f5.out h), (fun h => f6.out h), (fun h => f7.out h), (fun h => f8.out h), (fun h => (fun h => let ⟨b0, e, k⟩ := h; ⟨b0, e, k.later hb⟩) (f9.out h)), (fun _ => ⟨va, vc, rfl, hI⟩), (fun h => (fun h => let ⟨va, vc, e, k⟩ := h; ⟨va, vc, e, ints_low k hb⟩) (f11.out h)), (fun h => (fun h => let ⟨va, vc, e, k⟩ := h; ⟨va, vc, e, ints_low k hb⟩) (f12.out h))⟩
       ·intro L vs W hlen hL hD hI K hK
        obtain ⟨x0, x1, x2, x3, x4, x5, x6, x7, x8, x9, x10, x11, x12, rfl⟩ := len13 hlen
        have hG := hI.1
        replace hI := hI.2
        have f0 := hide hI.1
        replace hI := hI.2
        have f1 := hide hI.1
        replace hI := hI.2
        have f2 := hide hI.1
        replace hI := hI.2
        have f3 := hide hI.1
        replace hI := hI.2
        have f4 := hide hI.1
        replace hI := hI.2
        have f5 := hide hI.1
        replace hI := hI.2
        have f6 := hide hI.1
        replace hI := hI.2
        have f7 := hide hI.1
        replace hI := hI.2
        have f8 := hide hI.1
        replace hI := hI.2
        have f9 := hide hI.1
        replace hI := hI.2
        have f10 := hide hI.1
        replace hI := hI.2
        have f11 := hide hI.1
        replace hI := hI.2
        have f12 := hide hI
        clear hI
        obtain rfl := f0.out (hD.on 0 (by kernel_rfl))
        obtain rfl := f1.out (hD.on 1 (by kernel_rfl))
        have g10 := f10.out (hD.on 10 (by kernel_rfl))
        try simp only [puts, Act.put, List.setIfInBounds_toArray, List.set_cons_zero, List.set_cons_succ]
        obtain ⟨va, vc, rfl, hI⟩ := g10
        have HC1 := hide (HCX.out W _ hI)
        go_simp
        refine HC1.out.mono ?_
        rintro e W' ⟨v, rfl, hv, hb⟩
        obtain ⟨va2, vc2, rfl, -, -, -⟩ := id hv
        rw [HQ.out] at hv
        try go_simp
        exact hK.out _ _ _ (by simp only [puts, Act.put, List.setIfInBounds_toArray, List.set_cons_zero, List.set_cons_succ] <;> rfl) ⟨below2 hG hb, (fun h => f0.out h), (fun h => f1.out h), (fun h => f2.out h), (fun h => f3.out h), (fun h => f4.out h), (fun h => f5.out h), (fun h => f6.out h), (fun h => f7.out h), (fun h => f8.out h), (fun h => (fun h => let ⟨b0, e, k⟩ := h; ⟨b0, e, k.later hb⟩) (f9.out h)), (fun h => (fun h => let ⟨va, vc, e, k⟩ := h; ⟨va, vc, e, ints_low k hb⟩) (f10.out h)), (fun _ => ⟨_, _, by rw [HQ.out], hv⟩), (fun h => (fun h => let ⟨va, vc, e, k⟩ := h; ⟨va, vc, e, ints_low k hb⟩) (f12.out h))⟩
       ·intro L vs W hlen hL hD hI K hK
        obtain ⟨x0, x1, x2, x3, x4, x5, x6, x7, x8, x9, x10, x11, x12, rfl⟩ := len13 hlen
        have hG := hI.1
        replace hI := hI.2
        have f0 := hide hI.1
        replace hI := hI.2
        have f1 := hide hI.1
        replace hI := hI.2
        have f2 := hide hI.1
        replace hI := hI.2
        have f3 := hide hI.1
        replace hI := hI.2
        have f4 := hide hI.1
        replace hI := hI.2
        have f5 := hide hI.1
        replace hI := hI.2
        have f6 := hide hI.1
        replace hI := hI.2
        have f7 := hide hI.1
        replace hI := hI.2
        have f8 := hide hI.1
        replace hI := hI.2
        have f9 := hide hI.1
        replace hI := hI.2
        have f10 := hide hI.1
        replace hI := hI.2
        have f11 := hide hI.1
        replace hI := hI.2
        have f12 := hide hI
        clear hI
        have g11 := f11.out (hD.on 11 (by kernel_rfl))
        try simp only [puts, Act.put, List.setIfInBounds_toArray, List.set_cons_zero, List.set_cons_succ]
        obtain ⟨va, vc, rfl, hI⟩ := g11
        go_simp
        exact hK.out _ _ _ (by simp only [puts, Act.put, List.setIfInBounds_toArray, List.set_cons_zero, List.set_cons_succ] <;> rfl) ⟨hG, (fun h => f0.out h), (fun h => f1.out h), (fun h => f2.out h), (fun h => f3.out h), (fun h => f4.out h), (fun h => f5.out h), (fun h => f6.out h), (fun h => f7.out h), (fun h => f8.out h), (fun h => f9.out h), (fun h => f10.out h), (fun h => f11.out h), (fun _ => ⟨va, vc, rfl, hI⟩)⟩
      intro L vs W hlen hall hI
      obtain ⟨x0, x1, x2, x3, x4, x5, x6, x7, x8, x9, x10, x11, x12, rfl⟩ := len13 hlen
      have hG := hI.1
      replace hI := hI.2
      have f0 := hide hI.1
      replace hI := hI.2
      have f1 := hide hI.1
      replace hI := hI.2
      have f2 := hide hI.1
      replace hI := hI.2
      have f3 := hide hI.1
      replace hI := hI.2
      have f4 := hide hI.1
      replace hI := hI.2
      have f5 := hide hI.1
      replace hI := hI.2
      have f6 := hide hI.1
      replace hI := hI.2
      have f7 := hide hI.1
      replace hI := hI.2
      have f8 := hide hI.1
      replace hI := hI.2
      have f9 := hide hI.1
      replace hI := hI.2
      have f10 := hide hI.1
      replace hI := hI.2
      have f11 := hide hI.1
      replace hI := hI.2
      have f12 := hide hI
      clear hI
      obtain rfl := f0.out (hall 0 (by decide))
      obtain rfl := f1.out (hall 1 (by decide))
      obtain rfl := f2.out (hall 2 (by decide))
      obtain rfl := f3.out (hall 3 (by decide))
      obtain rfl := f4.out (hall 4 (by decide))
      obtain rfl := f5.out (hall 5 (by decide))
      obtain rfl := f6.out (hall 6 (by decide))
      obtain rfl := f7.out (hall 7 (by decide))
      obtain rfl := f8.out (hall 8 (by decide))
      have g9 := f9.out (hall 9 (by decide))
      have g10 := f10.out (hall 10 (by decide))
      have g11 := f11.out (hall 11 (by decide))
      have g12 := f12.out (hall 12 (by decide))
      have hal := hide hall
      clear hall f0 f1 f2 f3 f4 f5 f6 f7 f8 f9 f10 f11 f12
      try simp only [puts, Act.put, List.setIfInBounds_toArray, List.set_cons_zero, List.set_cons_succ]
      obtain ⟨_, rfl, -⟩ := g9
      obtain ⟨_, _, rfl, -⟩ := g10
      obtain ⟨_, _, rfl, -⟩ := g11
      obtain ⟨va, vc, rfl, hI⟩ := g12
      have HIF := hide hI
      have HIB := hide (ints_low HBI.out hG)
      have HBF := hide (HBR.out.trans (hG.mono HBR.out.size))
      clear hI hG hal
      by_cases hq : (CX : List Int).length < q
      ·have hqd : decide ((CX : List Int).length < q) = true := decide_eq_true hq
       have HN := hide (HCN.out hq)
       clear hq
       go_wp2_with fail
       clear hqd
       go_roundw
       case rel => exact ⟨x + 1, _, by have := HX.out; omega, by go_num, rfl, by rw [HN.out]; exact HIF.out, HBF.out⟩
       case measure => have := HX.out; simp [intOf]; omega
      ·have hqd : decide ((CX : List Int).length < q) = false := decide_eq_false hq
       have HN := hide (HCO.out hq)
       clear hq
       go_wp2_with fail
       clear hqd
       go_roundw
       case rel => exact ⟨x + 1, _, by have := HX.out; omega, by go_num, rfl, by rw [HN.out]; exact HIB.out, HBF.out⟩
       case measure => have := HX.out; simp [intOf]; omega
   ·obtain rfl : x = n := by omega
    have HF := hide (below2 HXB.out HBR.out)
    go_wp2_with fail
    go_ret
    exact ⟨_, rfl, HBI.out, HF.out⟩
theorem rchain_no (o : OrderD) (pv : Value) (w : World) (hp : PairsIn w.cell? pv o.pairs) (hv : validO o = false) : Calls Tryd.prog 52 #[orderV o.n pv] w (Ret (.tuple #[.slice none 0 0, .int .i64 150]) w) := by
 obtain ⟨on, ps⟩ := o
 obtain ⟨pa, pm, rfl, -, -, -⟩ := id hp
 have HVA := hide (fun W (hb : Below w.heap.size w W) => by
  have h := rvalid_any ⟨on, ps⟩ (.slice pa ps.length pm) W (RecIn.below hb hp)
  rw [hv] at h
  exact h)
 clear hp hv
 go_enter Tryd.func52, Tryd.ntmps52
 go_wp2_with fail
 generalize hX1 : World.alloc w _ = X1
 have zX1 : X1.heap.size = w.heap.size + 1 := by rw [← hX1]; simp
 have bX1 : Below w.heap.size w X1 := by rw [← hX1]; exact bal w _
 have bO : Blk X1 (w.heap.size) [.int .i64 on, .slice pa ps.length pm] 25 := by rw [← hX1]; exact Blk.newA w _ (by first | rfl | simp)
 have Xb := bX1
 have Xz := zX1
 clear hX1 zX1 bX1
 have c0 := bO.cell 0 rfl
 have c1 := bO.cell 1 rfl
 go_wp2_with fail
 refine (HVA.out _ Xb).mono ?_
 rintro e w1 ⟨rfl, hb⟩
 have hw := below2 Xb hb
 clear c0 c1 bO hb Xb Xz
 go_wp2_with fail
 go_ret2
 exact ⟨rfl, hw⟩
end Go.Proofs.YtnidcoinfmcffaaDoor
namespace Go.Proofs.YtnidcoinfmcffaaDoor
open Go.RowKit
attribute [local go_sem] Oper.semAt_some
def IntsEA (l : List Int) (w : World) (e : Ending) (w' : World) : Prop := ∃ v, e = .returned (.tuple #[v, .int .i64 0]) ∧ IntsIn w'.cell? v l ∧ Below w.heap.size w w'
set_option maxRecDepth 100000 in
set_option maxHeartbeats 2000000 in
theorem rchain_yes (n : Nat) (ps : List (Int × Int)) (pv : Value) (w : World) (hp : PairsIn w.cell? pv ps) (hv : validO ⟨n, ps⟩ = true) : Calls Tryd.prog 52 #[orderV n pv] w (IntsEA (natsO (chainO n (beforeO ⟨n, ps⟩))) w) := by
 obtain ⟨pa, pm, rfl, -, -, -⟩ := id hp
 have hf : formedO ⟨(n : Int), ps⟩ = true := by unfold validO at hv; rw [Bool.and_eq_true] at hv; exact hv.1
 have hn8 : n ≤ 8 := by
  have := (formed_n hf).1.2
  simp only at this
  omega
 have HPO := hide (show PoO n (beforeO ⟨n, ps⟩) from before_po hv)
 have HVA := hide (fun W (hb : Below w.heap.size w W) => by
  have h := rvalid_any ⟨(n : Int), ps⟩ (.slice pa ps.length pm) W (RecIn.below hb hp)
  rw [hv] at h
  exact h)
 have HBE := hide (fun W (hb : Below w.heap.size w W) => rbefore_any n ps (.slice pa ps.length pm) W (RecIn.below hb hp) hf)
 generalize beforeO ⟨(n : Int), ps⟩ = R at *
 clear hp hv hf
 have HLI := hide (fun W => rchainS_any hn8 HPO.out (n + 1) [] (.slice none 0 0) W (by simp; omega) (fun y hy => by cases hy) (fun x _ _ => Nat.lt_succ_of_le (pred_le _ _ _)) (IntsIn.nil _))
 unfold ChQ at HLI
 rw [chB_nil] at HLI
 obtain ⟨CX, hCX⟩ : ∃ CX, natsO (chainO n R) = CX := ⟨_, rfl⟩
 rw [hCX] at HLI ⊢
 clear hCX
 go_enter Tryd.func52, Tryd.ntmps52
 go_wp2_with fail
 generalize hX1 : World.alloc w _ = X1
 have zX1 : X1.heap.size = w.heap.size + 1 := by rw [← hX1]; simp
 have bX1 : Below w.heap.size w X1 := by rw [← hX1]; exact bal w _
 have bO : Blk X1 (w.heap.size) [.int .i64 n, .slice pa ps.length pm] 25 := by rw [← hX1]; exact Blk.newA w _ (by first | rfl | simp)
 have Xb := bX1
 have Xz := zX1
 clear hX1 zX1 bX1
 have c0 := bO.cell 0 rfl
 have c1 := bO.cell 1 rfl
 go_wp2_with fail
 refine (HVA.out _ Xb).mono ?_
 rintro e w1 ⟨rfl, hb⟩
 have HW := hide (below2 Xb hb)
 have BO := hide (bO.later hb)
 clear c0 c1 hb Xb Xz bO
 go_upto_region 3 with (fail)
 refine wp_region_inv [some 7, some 8, some 9, some 10, some 11, some 2, some 3] (fun L vs W => match vs with | [x0, x1, x2, x3, x4, x5, x6] => (Below w1.heap.size w1 W) ∧ (L 0 = true → x0 = .pointer (some ⟨w.heap.size, 0, none⟩)) ∧ (L 1 = true → x1 = .int .i64 n) ∧ (L 2 = true → x2 = .agg #[.int .i64 n, .slice pa ps.length pm]) ∧ (L 3 = true → x3 = relV R) ∧ (L 4 = true → ∃ va vm vc, x4 = .slice va vm vc ∧ IntsIn W.cell? (.slice va vm vc) CX) ∧ (L 5 = true → ∃ va vm vc, x5 = .slice va vm vc ∧ IntsIn W.cell? (.slice va vm vc) CX) ∧ (L 6 = true → x6 = .int .i64 0) | _ => False) [_, _, _, _, _, _, _] (by kernel_rfl) (by kernel_rfl) rfl (by simp only [puts, Act.put, List.setIfInBounds_toArray, List.set_cons_zero, List.set_cons_succ] <;> rfl) ?_ ?_ ?_
 ·exact ⟨(Below.refl _ _).drew, (fun h => by cases h), (fun h => by cases h), (fun h => by cases h), (fun h => by cases h), (fun h => by cases h), (fun h => by cases h), (fun h => by cases h)⟩
 ·refine ⟨?_, ?_, ?_, ?_, ?_, ?_, ?_, trivial⟩
  ·intro L vs W hlen hL hD hI K hK
   obtain ⟨x0, x1, x2, x3, x4, x5, x6, rfl⟩ := len7 hlen
   have hG := hI.1
   replace hI := hI.2
   have f0 := hide hI.1
   replace hI := hI.2
   have f1 := hide hI.1
   replace hI := hI.2
   have f2 := hide hI.1
   replace hI := hI.2
   have f3 := hide hI.1
   replace hI := hI.2
   have f4 := hide hI.1
   replace hI := hI.2
   have f5 := hide hI.1
   replace hI := hI.2
   have f6 := hide hI
   clear hI
   try simp only [puts, Act.put, List.setIfInBounds_toArray, List.set_cons_zero, List.set_cons_succ]
   try go_simp
   exact hK.out _ _ _ (by simp only [puts, Act.put, List.setIfInBounds_toArray, List.set_cons_zero, List.set_cons_succ] <;> rfl) ⟨hG, (fun _ => rfl), (fun h => f1.out h), (fun h => f2.out h), (fun h => f3.out h), (fun h => f4.out h), (fun h => f5.out h), (fun h => f6.out h)⟩
  ·intro L vs W hlen hL hD hI K hK
   obtain ⟨x0, x1, x2, x3, x4, x5, x6, rfl⟩ := len7 hlen
   have hG := hI.1
   replace hI := hI.2
   have f0 := hide hI.1
   replace hI := hI.2
   have f1 := hide hI.1
   replace hI := hI.2
   have f2 := hide hI.1
   replace hI := hI.2
   have f3 := hide hI.1
   replace hI := hI.2
   have f4 := hide hI.1
   replace hI := hI.2
   have f5 := hide hI.1
   replace hI := hI.2
   have f6 := hide hI
   clear hI
   obtain rfl := f0.out (hD.on 0 (by kernel_rfl))
   try simp only [puts, Act.put, List.setIfInBounds_toArray, List.set_cons_zero, List.set_cons_succ]
   have z0 := (BO.out.later hG).cell 0 rfl
   go_simp
   exact hK.out _ _ _ (by simp only [puts, Act.put, List.setIfInBounds_toArray, List.set_cons_zero, List.set_cons_succ] <;> rfl) ⟨hG, (fun h => f0.out h), (fun _ => rfl), (fun h => f2.out h), (fun h => f3.out h), (fun h => f4.out h), (fun h => f5.out h), (fun h => f6.out h)⟩
  ·intro L vs W hlen hL hD hI K hK
   obtain ⟨x0, x1, x2, x3, x4, x5, x6, rfl⟩ := len7 hlen
   have hG := hI.1
   replace hI := hI.2
   have f0 := hide hI.1
   replace hI := hI.2
   have f1 := hide hI.1
   replace hI := hI.2
   have f2 := hide hI.1
   replace hI := hI.2
   have f3 := hide hI.1
   replace hI := hI.2
   have f4 := hide hI.1
   replace hI := hI.2
   have f5 := hide hI.1
   replace hI := hI.2
   have f6 := hide hI
   clear hI
   try simp only [puts, Act.put, List.setIfInBounds_toArray, List.set_cons_zero, List.set_cons_succ]
   have z0 := (BO.out.later hG).cell 0 rfl
   have z1 := (BO.out.later hG).cell 1 rfl
   go_simp
   exact hK.out _ _ _ (by simp only [puts, Act.put, List.setIfInBounds_toArray, List.set_cons_zero, List.set_cons_succ] <;> rfl) ⟨hG, (fun h => f0.out h), (fun h => f1.out h), (fun _ => rfl), (fun h => f3.out h), (fun h => f4.out h), (fun h => f5.out h), (fun h => f6.out h)⟩
  ·intro L vs W hlen hL hD hI K hK
   obtain ⟨x0, x1, x2, x3, x4, x5, x6, rfl⟩ := len7 hlen
   have hG := hI.1
   replace hI := hI.2
   have f0 := hide hI.1
   replace hI := hI.2
   have f1 := hide hI.1
   replace hI := hI.2
   have f2 := hide hI.1
   replace hI := hI.2
   have f3 := hide hI.1
   replace hI := hI.2
   have f4 := hide hI.1
   replace hI := hI.2
   have f5 := hide hI.1
   replace hI := hI.2
   have f6 := hide hI
   clear hI
   obtain rfl := f2.out (hD.on 2 (by kernel_rfl))
   try simp only [puts, Act.put, List.setIfInBounds_toArray, List.set_cons_zero, List.set_cons_succ]
   have HC1 := hide (HBE.out W (below2 HW.out hG))
   go_simp
   refine HC1.out.mono ?_
   rintro e W' ⟨rfl, hb⟩
   try go_simp
   exact hK.out _ _ _ (by simp only [puts, Act.put, List.setIfInBounds_toArray, List.set_cons_zero, List.set_cons_succ] <;> rfl) ⟨below2 hG hb, (fun h => f0.out h), (fun h => f1.out h), (fun h => f2.out h), (fun _ => rfl), (fun h => (fun h => let ⟨va, vm, vc, e, k⟩ := h; ⟨va, vm, vc, e, ints_low k hb⟩) (f4.out h)), (fun h => (fun h => let ⟨va, vm, vc, e, k⟩ := h; ⟨va, vm, vc, e, ints_low k hb⟩) (f5.out h)), (fun h => f6.out h)⟩
  ·intro L vs W hlen hL hD hI K hK
   obtain ⟨x0, x1, x2, x3, x4, x5, x6, rfl⟩ := len7 hlen
   have hG := hI.1
   replace hI := hI.2
   have f0 := hide hI.1
   replace hI := hI.2
   have f1 := hide hI.1
   replace hI := hI.2
   have f2 := hide hI.1
   replace hI := hI.2
   have f3 := hide hI.1
   replace hI := hI.2
   have f4 := hide hI.1
   replace hI := hI.2
   have f5 := hide hI.1
   replace hI := hI.2
   have f6 := hide hI
   clear hI
   obtain rfl := f1.out (hD.on 1 (by kernel_rfl))
   obtain rfl := f3.out (hD.on 3 (by kernel_rfl))
   try simp only [puts, Act.put, List.setIfInBounds_toArray, List.set_cons_zero, List.set_cons_succ]
   have HC1 := hide (HLI.out W)
   go_simp
   refine HC1.out.mono ?_
   rintro e W' ⟨v, rfl, hv, hb⟩
   obtain ⟨va2, vc2, rfl, -, -, -⟩ := id hv
   try go_simp
   exact hK.out _ _ _ (by simp only [puts, Act.put, List.setIfInBounds_toArray, List.set_cons_zero, List.set_cons_succ] <;> rfl) ⟨below2 hG hb, (fun h => f0.out h), (fun h => f1.out h), (fun h => f2.out h), (fun h => f3.out h), (fun _ => ⟨_, _, _, rfl, hv⟩), (fun h => (fun h => let ⟨va, vm, vc, e, k⟩ := h; ⟨va, vm, vc, e, ints_low k hb⟩) (f5.out h)), (fun h => f6.out h)⟩
  ·intro L vs W hlen hL hD hI K hK
   obtain ⟨x0, x1, x2, x3, x4, x5, x6, rfl⟩ := len7 hlen
   have hG := hI.1
   replace hI := hI.2
   have f0 := hide hI.1
   replace hI := hI.2
   have f1 := hide hI.1
   replace hI := hI.2
   have f2 := hide hI.1
   replace hI := hI.2
   have f3 := hide hI.1
   replace hI := hI.2
   have f4 := hide hI.1
   replace hI := hI.2
   have f5 := hide hI.1
   replace hI := hI.2
   have f6 := hide hI
   clear hI
   have g4 := f4.out (hD.on 4 (by kernel_rfl))
   try simp only [puts, Act.put, List.setIfInBounds_toArray, List.set_cons_zero, List.set_cons_succ]
   obtain ⟨va, vm, vc, rfl, hI⟩ := g4
   go_simp
   exact hK.out _ _ _ (by simp only [puts, Act.put, List.setIfInBounds_toArray, List.set_cons_zero, List.set_cons_succ] <;> rfl) ⟨hG, (fun h => f0.out h), (fun h => f1.out h), (fun h => f2.out h), (fun h => f3.out h), (fun h => f4.out h), (fun _ => ⟨va, vm, vc, rfl, hI⟩), (fun h => f6.out h)⟩
  ·intro L vs W hlen hL hD hI K hK
   obtain ⟨x0, x1, x2, x3, x4, x5, x6, rfl⟩ := len7 hlen
   have hG := hI.1
   replace hI := hI.2
   have f0 := hide hI.1
   replace hI := hI.2
   have f1 := hide hI.1
   replace hI := hI.2
   have f2 := hide hI.1
   replace hI := hI.2
   have f3 := hide hI.1
   replace hI := hI.2
   have f4 := hide hI.1
   replace hI := hI.2
   have f5 := hide hI.1
   replace hI := hI.2
   have f6 := hide hI
   clear hI
   try simp only [puts, Act.put, List.setIfInBounds_toArray, List.set_cons_zero, List.set_cons_succ]
   try go_simp
   exact hK.out _ _ _ (by simp only [puts, Act.put, List.setIfInBounds_toArray, List.set_cons_zero, List.set_cons_succ] <;> rfl) ⟨hG, (fun h => f0.out h), (fun h => f1.out h), (fun h => f2.out h), (fun h => f3.out h), (fun h => f4.out h), (fun h => f5.out h), (fun _ => rfl)⟩
 intro L vs W hlen hall hI
 obtain ⟨x0, x1, x2, x3, x4, x5, x6, rfl⟩ := len7 hlen
 have hG := hI.1
 replace hI := hI.2
 have f0 := hide hI.1
 replace hI := hI.2
 have f1 := hide hI.1
 replace hI := hI.2
 have f2 := hide hI.1
 replace hI := hI.2
 have f3 := hide hI.1
 replace hI := hI.2
 have f4 := hide hI.1
 replace hI := hI.2
 have f5 := hide hI.1
 replace hI := hI.2
 have f6 := hide hI
 clear hI
 obtain rfl := f0.out (hall 0 (by decide))
 obtain rfl := f1.out (hall 1 (by decide))
 obtain rfl := f2.out (hall 2 (by decide))
 obtain rfl := f3.out (hall 3 (by decide))
 have g4 := f4.out (hall 4 (by decide))
 have g5 := f5.out (hall 5 (by decide))
 obtain rfl := f6.out (hall 6 (by decide))
 have hal := hide hall
 clear hall f0 f1 f2 f3 f4 f5 f6
 try simp only [puts, Act.put, List.setIfInBounds_toArray, List.set_cons_zero, List.set_cons_succ]
 obtain ⟨_, _, _, rfl, -⟩ := g4
 obtain ⟨va, vm, vc, rfl, hI⟩ := g5
 have HIF := hide hI
 have HF := hide (below2 HW.out hG)
 clear hI hG hal
 go_wp2_with fail
 go_ret2
 exact ⟨_, rfl, HIF.out, HF.out⟩
theorem first_next {α : Type} {f : Nat → Option α} {x : Nat} (h : firstO f x = none) : firstO f (x + 1) = f x := by
 show (match firstO f x with
  | some c => some c
  | none => f x) = f x
 rw [h]
/-- a list, or none -/
def OptV (r : Option (List Nat)) (v : Value) (W : World) : Prop := ∃ ga gm gc, v = .slice ga gm gc ∧ match r with
 | none => ga = none ∧ gm = 0 ∧ gc = 0
 | some c => (∃ b o, ga = some ⟨b, o, none⟩) ∧ IntsIn W.cell? (.slice ga gm gc) (natsO c)
theorem OptV.later {r : Option (List Nat)} {v : Value} {W W' : World} (h : OptV r v W) (hb : Below W.heap.size W W') : OptV r v W' := by
 obtain ⟨ga, gm, gc, e, h⟩ := h
 refine ⟨ga, gm, gc, e, ?_⟩
 cases r with
 | none => exact h
 | some c => exact ⟨h.1, ints_low h.2 hb⟩
def CyQ (r : Option (List Nat)) (w : World) (e : Ending) (w' : World) : Prop := ∃ v, e = .returned v ∧ OptV r v w' ∧ Below w.heap.size w w'
set_option maxRecDepth 100000 in
set_option maxHeartbeats 4000000 in
theorem rcyc_any {n : Nat} {A : RelO} {k : Nat} (hn8 : n ≤ 8) (hk8 : k ≤ 8) : ∀ (f : Nat) (p : List Nat) (lv : Value) (w : World), p ≠ [] → p.length + f = k → (∀ y ∈ p, y < n) → IntsIn w.cell? lv (natsO p) → Calls Tryd.prog 72 #[.int .i64 (n : Nat), relV A, lv, .int .i64 (k : Nat)] w (CyQ (extC n A k f p) w) := by
 intro f
 induction f with
 | zero =>
  intro p lv w hp0 hlk hpn hl
  obtain ⟨m, hm⟩ : ∃ m, p.length = m := ⟨_, rfl⟩
  have hnm : (natsO p).length = m := by rw [natsO_ln, hm]
  have hmk : m = k := by omega
  have HEX : Hid (extC n A k 0 p = if A (lastO p) (p.getD 0 0) then some p else none) := hide (by unfold extC; rw [if_pos (by omega)])
  have hmp : 0 < m := by rw [← hm]; exact List.length_pos_iff.2 hp0
  have hz1 : lastO p < n := hpn _ (getD_mem p _ (by omega))
  have hz2 : p.getD 0 0 < n := hpn _ (getD_mem p _ (by omega))
  obtain ⟨sa, sc, rfl, hs1, hs2, -⟩ := id hl
  rw [hnm] at hl hs1 ⊢
  obtain ⟨lb, lo, rfl, hca⟩ := intsR_at hl (i := m - 1) (by omega)
  obtain ⟨lb', lo', e', hcb⟩ := intsR_at hl (i := 0) (by omega)
  cases e'
  rw [natsO_getD, show p.getD (m - 1) 0 = lastO p by unfold lastO; rw [hm]] at hca
  rw [natsO_getD, Nat.add_zero] at hcb
  have HLI := hide hl
  obtain ⟨z, hz⟩ : ∃ z, lastO p = z := ⟨_, rfl⟩
  obtain ⟨y, hy⟩ : ∃ y, p.getD 0 0 = y := ⟨_, rfl⟩
  rw [hz] at hca hz1 HEX
  rw [hy] at hcb hz2 HEX
  have hz8 : z < 8 := by omega
  have hy8 : y < 8 := by omega
  have hz8I : (z : Int) < 8 := by omega
  have hy8I : (y : Int) < 8 := by omega
  subst hmk
  have hwm : IntKind.i64.wrap ((m : Int) - 1) = (m : Int) - 1 := IntWalk.i64_in _ ⟨by omega, by omega⟩
  have hm0 : (0 : Int) ≤ (m : Int) - 1 := by omega
  have hmk' : ((m : Int) - 1).toNat = m - 1 := by omega
  have hmn : (m : Int) - 1 < m := by omega
  have hmpI : (0 : Int) < m := by omega
  clear hl hpn hp0 hs2 hm hnm hlk hz hy
  go_enter Tryd.func72, Tryd.ntmps72
  go_wp2_with fail
  generalize hX1 : World.alloc w _ = X1
  have zX1 : X1.heap.size = w.heap.size + 1 := by rw [← hX1]; simp
  have bX1 : Below w.heap.size w X1 := by rw [← hX1]; exact bal w _
  have bM : Blk X1 (w.heap.size) (relL A) 62 := by rw [← hX1]; exact Blk.newA w _ (by first | rfl | simp)
  have Xb := bX1
  have Xz := zX1
  clear hX1 zX1 bX1
  have HXB := hide Xb
  have HL1 := hide (ints_low HLI.out Xb)
  have q1 : ∀ j : Bw X1.heap.size X1, j.W.cell? ⟨lb, lo + (m - 1), none⟩ = some (.int .i64 (z : Nat)) := bwc (keep Xb hca)
  have q2 : ∀ j : Bw X1.heap.size X1, j.W.cell? ⟨lb, lo, none⟩ = some (.int .i64 (y : Nat)) := bwc (keep Xb hcb)
  have q3 : ∀ j : Bw X1.heap.size X1, j.W.cell? ⟨w.heap.size, z * 8 + y, none⟩ = some (.bool (A z y)) := bwc (bM.cell _ (relL_get A hz8 hy8))
  clear bM Xb Xz hca hcb
  generalize A z y = r1 at *
  cases r1
  ·go_upto_region 2 with (fail)
   refine wp_region_bw (by kernel_rfl) (by kernel_rfl) ?_
   repeat (go_big_quiet_step (fail))
   refine wpQuiet_nil ?_
   rintro _ ⟨j, rfl⟩
   go_wp2_with fail
   go_ret
   exact ⟨_, rfl, by rw [HEX.out]; exact ⟨none, 0, 0, rfl, rfl, rfl, rfl⟩, below2 HXB.out j.h⟩
  ·go_upto_region 2 with (fail)
   refine wp_region_bw (by kernel_rfl) (by kernel_rfl) ?_
   repeat (go_big_quiet_step (fail))
   refine wpQuiet_nil ?_
   rintro _ ⟨j, rfl⟩
   have HL2 := hide (ints_low HL1.out j.h)
   go_wp2_with fail
   go_ret
   exact ⟨_, rfl, by rw [HEX.out]; exact ⟨_, _, _, rfl, ⟨_, _, rfl⟩, HL2.out⟩, below2 HXB.out j.h⟩
 | succ f ih =>
  intro p lv w hp0 hlk hpn hl
  obtain ⟨m, hm⟩ : ∃ m, p.length = m := ⟨_, rfl⟩
  have hnm : (natsO p).length = m := by rw [natsO_ln, hm]
  have hmk1 : m < k := by omega
  have HEX : Hid (extC n A k (f + 1) p = firstO (fun x => if A (lastO p) x && !p.contains x then extC n A k f (p ++ [x]) else none) n) := hide (by
   show (if p.length = k then _ else _) = _
   rw [if_neg (by omega)])
  have hmp : 0 < m := by rw [← hm]; exact List.length_pos_iff.2 hp0
  have hz1 : lastO p < n := hpn _ (getD_mem p _ (by omega))
  have HIH : Hid (∀ x, x < n → ∀ W v, IntsIn W.cell? v (natsO p ++ [(x : Int)]) → Calls Tryd.prog 72 #[.int .i64 (n : Nat), relV A, v, .int .i64 (k : Nat)] W (CyQ (extC n A k f (p ++ [x])) W)) := hide (fun x hx W v hv => ih (p ++ [x]) v W (by simp) (by rw [List.length_append, List.length_singleton]; omega) (fun y hy => by
   rcases List.mem_append.1 hy with h1 | h1
   ·exact hpn y h1
   ·rw [List.mem_singleton.1 h1]; exact hx) (by rw [natsO_snoc]; exact hv))
  obtain ⟨sa, sc, rfl, hs1, hs2, -⟩ := id hl
  rw [hnm] at hl hs1 ⊢
  obtain ⟨lb, lo, rfl, hca⟩ := intsR_at hl (i := m - 1) (by omega)
  rw [natsO_getD, show p.getD (m - 1) 0 = lastO p by unfold lastO; rw [hm]] at hca
  obtain ⟨z, hz⟩ : ∃ z, lastO p = z := ⟨_, rfl⟩
  rw [hz] at hca hz1 HEX
  have HLI := hide hl
  have HCT0 : Hid (IntsIn w.cell? (.slice (some ⟨lb, lo, none⟩) m m) (natsO p)) := hide (by
   have h := IntsIn.take hl (k := m) (by omega)
   rw [← hnm, List.take_length] at h
   rw [← hnm]; exact h)
  have hm1 : m < 1000000 := by omega
  have hmI : (m : Int) ≤ 9223372036854775807 := by omega
  have hz8 : z < 8 := by omega
  have hz8I : (z : Int) < 8 := by omega
  have hwm : IntKind.i64.wrap ((m : Int) - 1) = (m : Int) - 1 := IntWalk.i64_in _ ⟨by omega, by omega⟩
  have hm0 : (0 : Int) ≤ (m : Int) - 1 := by omega
  have hmk' : ((m : Int) - 1).toNat = m - 1 := by omega
  have hmn : (m : Int) - 1 < m := by omega
  have hd0 : decide (0 < m) = true := decide_eq_true hmp
  have hd1 : (0 : Int) < (m : Int) := by omega
  have hd2 : ((m : Int) == (k : Int)) = false := beq_eq_false_iff_ne.2 (by omega)
  have hd3 : (m == k) = false := beq_eq_false_iff_ne.2 (by omega)
  have HHA := hide (fun x W (hb : Below w.heap.size w W) => rhas_any (natsO p) (x : Nat) _ W (ints_low hl hb))
  have HAN := hide (fun x : Nat => any_nats p x)
  have HFG := hide (fun x : Nat => (show (if A z x && !p.contains x then extC n A k f (p ++ [x]) else none) = (fun x => if A z x && !p.contains x then extC n A k f (p ++ [x]) else none) x from rfl))
  have HF0 : Hid (firstO (fun x => if A z x && !p.contains x then extC n A k f (p ++ [x]) else none) 0 = none) := hide rfl
  have HFN : Hid (∀ x, firstO (fun x => if A z x && !p.contains x then extC n A k f (p ++ [x]) else none) x = none → (if A z x && !p.contains x then extC n A k f (p ++ [x]) else none) = none → firstO (fun x => if A z x && !p.contains x then extC n A k f (p ++ [x]) else none) (x + 1) = none) := hide (fun x h1 h2 => by
   rw [first_next h1]; exact h2)
  have HFH : Hid (∀ x c, x < n → firstO (fun x => if A z x && !p.contains x then extC n A k f (p ++ [x]) else none) x = none → (if A z x && !p.contains x then extC n A k f (p ++ [x]) else none) = some c → firstO (fun x => if A z x && !p.contains x then extC n A k f (p ++ [x]) else none) n = some c) := hide (fun x c hx h1 h2 => first_hit h1 h2 hx)
  generalize firstO (fun x => if A z x && !p.contains x then extC n A k f (p ++ [x]) else none) = FO at *
  clear hl hpn hp0 hs2 hm hnm hlk hz ih HFG
  go_enter Tryd.func72, Tryd.ntmps72
  go_wp2_with fail
  generalize hX1 : World.alloc w _ = X1
  have zX1 : X1.heap.size = w.heap.size + 1 := by rw [← hX1]; simp
  have bX1 : Below w.heap.size w X1 := by rw [← hX1]; exact bal w _
  have bM : Blk X1 (w.heap.size) (relL A) 62 := by rw [← hX1]; exact Blk.newA w _ (by first | rfl | simp)
  have Xb := bX1
  have Xz := zX1
  clear hX1 zX1 bX1
  have HXB := hide Xb
  have HBM := hide bM
  clear bM Xb Xz hd2 hd3
  go_loopw [9] (fun i wr => ∃ x : Nat, x ≤ n ∧ i = .int .i64 x ∧ FO x = none ∧ Below X1.heap.size X1 wr) (fun i _ => n - (intOf i).toNat)
  case atStart => exact ⟨0, by omega, rfl, HF0.out, Below.refl _ _⟩
  case round =>
   obtain ⟨x, hx, rfl, hfo, hbr⟩ := hrel
   have HFX := hide hfo
   have HBR := hide hbr
   have BM1 := hide (HBM.out.later hbr)
   have HBW1 := hide (below2 HXB.out hbr)
   have HCT := hide (ints_low HCT0.out (below2 HXB.out hbr))
   clear hbr hfo
   by_cases hlx : x < n
   ·have hlxI : (x : Int) < n := by omega
    have HX := hide hlx
    have hx8 : x < 8 := by omega
    have hx8I : (x : Int) < 8 := by omega
    have HCN := hide (HHA.out x wr HBW1.out)
    rw [HAN.out x] at HCN
    have HNX := hide (HFN.out x HFX.out)
    have HYX := hide (fun c h => HFH.out x c hlx HFX.out h)
    have HCX := hide (HIH.out x hlx)
    have t0 := BM1.out.cell _ (relL_get A hz8 hx8)
    have hcz := keep HBW1.out hca
    generalize extC n A k f (p ++ [x]) = r at *
    cases hcp : p.contains x
    ·rw [hcp] at HCN HNX HYX
     cases hra : A z x
     ·rw [hra] at t0 HNX
      have HN := hide (HNX.out rfl)
      clear hcp hra
      go_wp2_with fail
      refine HCN.out.mono ?_
      rintro e w5 ⟨rfl, hw5⟩
      obtain rfl := hw5.symm
      go_wp2_with fail
      clear t0 hcz
      go_roundw
      case rel => exact ⟨x + 1, by have := HX.out; omega, by go_num, HN.out, HBR.out⟩
      case measure => have := HX.out; simp [intOf]; omega
     ·rw [hra] at t0 HNX HYX
      have HNO := hide (fun h : r = none => HNX.out (by rw [h]; rfl))
      have HYE : Hid (∀ c, r = some c → extC n A k (f + 1) p = some c) := hide (fun c h => by rw [HEX.out]; exact HYX.out c (by rw [h]; rfl))
      clear hcp hra
      go_upto_region 9 with (refine HCN.out.mono ?_; rintro e w5 ⟨rfl, hw5⟩; obtain rfl := hw5.symm)
      clear t0 hcz
      go_upto_region 9 with (fail)
      refine wp_region_inv [some 53, some 54, some 55, some 56, some 57, some 58, some 59, some 60, some 61, some 62, some 63, some 64, some 65, some 10] (fun L vs W => match vs with | [x0, x1, x2, x3, x4, x5, x6, x7, x8, x9, x10, x11, x12, x13] => (Below wr.heap.size wr W) ∧ (L 0 = true → x0 = .int .i64 (n : Nat)) ∧ (L 1 = true → x1 = relV A) ∧ (L 2 = true → x2 = .slice (some ⟨lb, lo, none⟩) m sc) ∧ (L 3 = true → x3 = .slice (some ⟨lb, lo, none⟩) m sc) ∧ (L 4 = true → x4 = .int .i64 (m : Nat)) ∧ (L 5 = true → x5 = .slice (some ⟨lb, lo, none⟩) m sc) ∧ (L 6 = true → x6 = .int .i64 (m : Nat)) ∧ (L 7 = true → x7 = .slice (some ⟨lb, lo, none⟩) m m) ∧ (L 8 = true → x8 = .int .i64 (x : Nat)) ∧ (L 9 = true → ∃ b0 : Nat, x9 = .slice (some ⟨b0, 0, none⟩) 1 1 ∧ Blk W b0 [.int .i64 x] 3) ∧ (L 10 = true → ∃ va vc, x10 = .slice va (m + 1) vc ∧ IntsIn W.cell? (.slice va (m + 1) vc) (natsO p ++ [(x : Int)])) ∧ (L 11 = true → x11 = .int .i64 (k : Nat)) ∧ (L 12 = true → OptV r x12 W) ∧ (L 13 = true → OptV r x13 W) | _ => False) [_, _, _, _, _, _, _, _, _, _, _, _, _, _] (by kernel_rfl) (by kernel_rfl) rfl (by simp only [puts, Act.put, List.setIfInBounds_toArray, List.set_cons_zero, List.set_cons_succ] <;> rfl) ?_ ?_ ?_
      ·exact ⟨(Below.refl _ _).drew, (fun h => by cases h), (fun h => by cases h), (fun h => by cases h), (fun h => by cases h), (fun h => by cases h), (fun h => by cases h), (fun h => by cases h), (fun h => by cases h), (fun h => by cases h), (fun h => by cases h), (fun h => by cases h), (fun h => by cases h), (fun h => by cases h), (fun h => by cases h)⟩
      ·refine ⟨?_, ?_, ?_, ?_, ?_, ?_, ?_, ?_, ?_, ?_, ?_, ?_, ?_, ?_, trivial⟩
       ·intro L vs W hlen hL hD hI K hK
        obtain ⟨x0, x1, x2, x3, x4, x5, x6, x7, x8, x9, x10, x11, x12, x13, rfl⟩ := len14 hlen
        have hG := hI.1
        replace hI := hI.2
        have f0 := hide hI.1
        replace hI := hI.2
        have f1 := hide hI.1
        replace hI := hI.2
        have f2 := hide hI.1
        replace hI := hI.2
        have f3 := hide hI.1
        replace hI := hI.2
        have f4 := hide hI.1
        replace hI := hI.2
        have f5 := hide hI.1
        replace hI := hI.2
        have f6 := hide hI.1
        replace hI := hI.2
        have f7 := hide hI.1
        replace hI := hI.2
        have f8 := hide hI.1
        replace hI := hI.2
        have f9 := hide hI.1
        replace hI := hI.2
        have f10 := hide hI.1
        replace hI := hI.2
        have f11 := hide hI.1
        replace hI := hI.2
        have f12 := hide hI.1
        replace hI := hI.2
        have f13 := hide hI
        clear hI
        try simp only [puts, Act.put, List.setIfInBounds_toArray, List.set_cons_zero, List.set_cons_succ]
        try go_simp
        exact hK.out _ _ _ (by simp only [puts, Act.put, List.setIfInBounds_toArray, List.set_cons_zero, List.set_cons_succ] <;> rfl) ⟨hG, (fun _ => rfl), (fun h => f1.out h), (fun h => f2.out h), (fun h => f3.out h), (fun h => f4.out h), (fun h => f5.out h), (fun h => f6.out h), (fun h => f7.out h), (fun h => f8.out h), (fun h => f9.out h), (fun h => f10.out h), (fun h => f11.out h), (fun h => f12.out h), (fun h => f13.out h)⟩
       ·intro L vs W hlen hL hD hI K hK
        obtain ⟨x0, x1, x2, x3, x4, x5, x6, x7, x8, x9, x10, x11, x12, x13, rfl⟩ := len14 hlen
        have hG := hI.1
        replace hI := hI.2
        have f0 := hide hI.1
        replace hI := hI.2
        have f1 := hide hI.1
        replace hI := hI.2
        have f2 := hide hI.1
        replace hI := hI.2
        have f3 := hide hI.1
        replace hI := hI.2
        have f4 := hide hI.1
        replace hI := hI.2
        have f5 := hide hI.1
        replace hI := hI.2
        have f6 := hide hI.1
        replace hI := hI.2
        have f7 := hide hI.1
        replace hI := hI.2
        have f8 := hide hI.1
        replace hI := hI.2
        have f9 := hide hI.1
        replace hI := hI.2
        have f10 := hide hI.1
        replace hI := hI.2
        have f11 := hide hI.1
        replace hI := hI.2
        have f12 := hide hI.1
        replace hI := hI.2
        have f13 := hide hI
        clear hI
        try simp only [puts, Act.put, List.setIfInBounds_toArray, List.set_cons_zero, List.set_cons_succ]
        refine step_load_rel rfl _ rfl w.heap.size rfl A (BM1.out.later hG) ?_
        exact hK.out _ _ _ (by simp only [puts, Act.put, List.setIfInBounds_toArray, List.set_cons_zero, List.set_cons_succ] <;> rfl) ⟨hG, (fun h => f0.out h), (fun _ => rfl), (fun h => f2.out h), (fun h => f3.out h), (fun h => f4.out h), (fun h => f5.out h), (fun h => f6.out h), (fun h => f7.out h), (fun h => f8.out h), (fun h => f9.out h), (fun h => f10.out h), (fun h => f11.out h), (fun h => f12.out h), (fun h => f13.out h)⟩
       ·intro L vs W hlen hL hD hI K hK
        obtain ⟨x0, x1, x2, x3, x4, x5, x6, x7, x8, x9, x10, x11, x12, x13, rfl⟩ := len14 hlen
        have hG := hI.1
        replace hI := hI.2
        have f0 := hide hI.1
        replace hI := hI.2
        have f1 := hide hI.1
        replace hI := hI.2
        have f2 := hide hI.1
        replace hI := hI.2
        have f3 := hide hI.1
        replace hI := hI.2
        have f4 := hide hI.1
        replace hI := hI.2
        have f5 := hide hI.1
        replace hI := hI.2
        have f6 := hide hI.1
        replace hI := hI.2
        have f7 := hide hI.1
        replace hI := hI.2
        have f8 := hide hI.1
        replace hI := hI.2
        have f9 := hide hI.1
        replace hI := hI.2
        have f10 := hide hI.1
        replace hI := hI.2
        have f11 := hide hI.1
        replace hI := hI.2
        have f12 := hide hI.1
        replace hI := hI.2
        have f13 := hide hI
        clear hI
        try simp only [puts, Act.put, List.setIfInBounds_toArray, List.set_cons_zero, List.set_cons_succ]
        try go_simp
        exact hK.out _ _ _ (by simp only [puts, Act.put, List.setIfInBounds_toArray, List.set_cons_zero, List.set_cons_succ] <;> rfl) ⟨hG, (fun h => f0.out h), (fun h => f1.out h), (fun _ => rfl), (fun h => f3.out h), (fun h => f4.out h), (fun h => f5.out h), (fun h => f6.out h), (fun h => f7.out h), (fun h => f8.out h), (fun h => f9.out h), (fun h => f10.out h), (fun h => f11.out h), (fun h => f12.out h), (fun h => f13.out h)⟩
       ·intro L vs W hlen hL hD hI K hK
        obtain ⟨x0, x1, x2, x3, x4, x5, x6, x7, x8, x9, x10, x11, x12, x13, rfl⟩ := len14 hlen
        have hG := hI.1
        replace hI := hI.2
        have f0 := hide hI.1
        replace hI := hI.2
        have f1 := hide hI.1
        replace hI := hI.2
        have f2 := hide hI.1
        replace hI := hI.2
        have f3 := hide hI.1
        replace hI := hI.2
        have f4 := hide hI.1
        replace hI := hI.2
        have f5 := hide hI.1
        replace hI := hI.2
        have f6 := hide hI.1
        replace hI := hI.2
        have f7 := hide hI.1
        replace hI := hI.2
        have f8 := hide hI.1
        replace hI := hI.2
        have f9 := hide hI.1
        replace hI := hI.2
        have f10 := hide hI.1
        replace hI := hI.2
        have f11 := hide hI.1
        replace hI := hI.2
        have f12 := hide hI.1
        replace hI := hI.2
        have f13 := hide hI
        clear hI
        try simp only [puts, Act.put, List.setIfInBounds_toArray, List.set_cons_zero, List.set_cons_succ]
        try go_simp
        exact hK.out _ _ _ (by simp only [puts, Act.put, List.setIfInBounds_toArray, List.set_cons_zero, List.set_cons_succ] <;> rfl) ⟨hG, (fun h => f0.out h), (fun h => f1.out h), (fun h => f2.out h), (fun _ => rfl), (fun h => f4.out h), (fun h => f5.out h), (fun h => f6.out h), (fun h => f7.out h), (fun h => f8.out h), (fun h => f9.out h), (fun h => f10.out h), (fun h => f11.out h), (fun h => f12.out h), (fun h => f13.out h)⟩
       ·intro L vs W hlen hL hD hI K hK
        obtain ⟨x0, x1, x2, x3, x4, x5, x6, x7, x8, x9, x10, x11, x12, x13, rfl⟩ := len14 hlen
        have hG := hI.1
        replace hI := hI.2
        have f0 := hide hI.1
        replace hI := hI.2
        have f1 := hide hI.1
        replace hI := hI.2
        have f2 := hide hI.1
        replace hI := hI.2
        have f3 := hide hI.1
        replace hI := hI.2
        have f4 := hide hI.1
        replace hI := hI.2
        have f5 := hide hI.1
        replace hI := hI.2
        have f6 := hide hI.1
        replace hI := hI.2
        have f7 := hide hI.1
        replace hI := hI.2
        have f8 := hide hI.1
        replace hI := hI.2
        have f9 := hide hI.1
        replace hI := hI.2
        have f10 := hide hI.1
        replace hI := hI.2
        have f11 := hide hI.1
        replace hI := hI.2
        have f12 := hide hI.1
        replace hI := hI.2
        have f13 := hide hI
        clear hI
        obtain rfl := f3.out (hD.on 3 (by kernel_rfl))
        try simp only [puts, Act.put, List.setIfInBounds_toArray, List.set_cons_zero, List.set_cons_succ]
        try go_simp
        exact hK.out _ _ _ (by simp only [puts, Act.put, List.setIfInBounds_toArray, List.set_cons_zero, List.set_cons_succ] <;> rfl) ⟨hG, (fun h => f0.out h), (fun h => f1.out h), (fun h => f2.out h), (fun h => f3.out h), (fun _ => rfl), (fun h => f5.out h), (fun h => f6.out h), (fun h => f7.out h), (fun h => f8.out h), (fun h => f9.out h), (fun h => f10.out h), (fun h => f11.out h), (fun h => f12.out h), (fun h => f13.out h)⟩
       ·intro L vs W hlen hL hD hI K hK
        obtain ⟨x0, x1, x2, x3, x4, x5, x6, x7, x8, x9, x10, x11, x12, x13, rfl⟩ := len14 hlen
        have hG := hI.1
        replace hI := hI.2
        have f0 := hide hI.1
        replace hI := hI.2
        have f1 := hide hI.1
        replace hI := hI.2
        have f2 := hide hI.1
        replace hI := hI.2
        have f3 := hide hI.1
        replace hI := hI.2
        have f4 := hide hI.1
        replace hI := hI.2
        have f5 := hide hI.1
        replace hI := hI.2
        have f6 := hide hI.1
        replace hI := hI.2
        have f7 := hide hI.1
        replace hI := hI.2
        have f8 := hide hI.1
        replace hI := hI.2
        have f9 := hide hI.1
        replace hI := hI.2
        have f10 := hide hI.1
        replace hI := hI.2
        have f11 := hide hI.1
        replace hI := hI.2
        have f12 := hide hI.1
        replace hI := hI.2
        have f13 := hide hI
        clear hI
        try simp only [puts, Act.put, List.setIfInBounds_toArray, List.set_cons_zero, List.set_cons_succ]
        try go_simp
        exact hK.out _ _ _ (by simp only [puts, Act.put, List.setIfInBounds_toArray, List.set_cons_zero, List.set_cons_succ] <;> rfl) ⟨hG, (fun h => f0.out h), (fun h => f1.out h), (fun h => f2.out h), (fun h => f3.out h), (fun h => f4.out h), (fun _ => rfl), (fun h => f6.out h), (fun h => f7.out h), (fun h => f8.out h), (fun h => f9.out h), (fun h => f10.out h), (fun h => f11.out h), (fun h => f12.out h), (fun h => f13.out h)⟩
       ·intro L vs W hlen hL hD hI K hK
        obtain ⟨x0, x1, x2, x3, x4, x5, x6, x7, x8, x9, x10, x11, x12, x13, rfl⟩ := len14 hlen
        have hG := hI.1
        replace hI := hI.2
        have f0 := hide hI.1
        replace hI := hI.2
        have f1 := hide hI.1
        replace hI := hI.2
        have f2 := hide hI.1
        replace hI := hI.2
        have f3 := hide hI.1
        replace hI := hI.2
        have f4 := hide hI.1
        replace hI := hI.2
        have f5 := hide hI.1
        replace hI := hI.2
        have f6 := hide hI.1
        replace hI := hI.2
        have f7 := hide hI.1
        replace hI := hI.2
        have f8 := hide hI.1
        replace hI := hI.2
        have f9 := hide hI.1
        replace hI := hI.2
        have f10 := hide hI.1
        replace hI := hI.2
        have f11 := hide hI.1
        replace hI := hI.2
        have f12 := hide hI.1
        replace hI := hI.2
        have f13 := hide hI
        clear hI
        obtain rfl := f5.out (hD.on 5 (by kernel_rfl))
        try simp only [puts, Act.put, List.setIfInBounds_toArray, List.set_cons_zero, List.set_cons_succ]
        try go_simp
        exact hK.out _ _ _ (by simp only [puts, Act.put, List.setIfInBounds_toArray, List.set_cons_zero, List.set_cons_succ] <;> rfl) ⟨hG, (fun h => f0.out h), (fun h => f1.out h), (fun h => f2.out h), (fun h => f3.out h), (fun h => f4.out h), (fun h => f5.out h), (fun _ => rfl), (fun h => f7.out h), (fun h => f8.out h), (fun h => f9.out h), (fun h => f10.out h), (fun h => f11.out h), (fun h => f12.out h), (fun h => f13.out h)⟩
       ·intro L vs W hlen hL hD hI K hK
        obtain ⟨x0, x1, x2, x3, x4, x5, x6, x7, x8, x9, x10, x11, x12, x13, rfl⟩ := len14 hlen
        have hG := hI.1
        replace hI := hI.2
        have f0 := hide hI.1
        replace hI := hI.2
        have f1 := hide hI.1
        replace hI := hI.2
        have f2 := hide hI.1
        replace hI := hI.2
        have f3 := hide hI.1
        replace hI := hI.2
        have f4 := hide hI.1
        replace hI := hI.2
        have f5 := hide hI.1
        replace hI := hI.2
        have f6 := hide hI.1
        replace hI := hI.2
        have f7 := hide hI.1
        replace hI := hI.2
        have f8 := hide hI.1
        replace hI := hI.2
        have f9 := hide hI.1
        replace hI := hI.2
        have f10 := hide hI.1
        replace hI := hI.2
        have f11 := hide hI.1
        replace hI := hI.2
        have f12 := hide hI.1
        replace hI := hI.2
        have f13 := hide hI
        clear hI
        obtain rfl := f2.out (hD.on 2 (by kernel_rfl))
        obtain rfl := f4.out (hD.on 4 (by kernel_rfl))
        obtain rfl := f6.out (hD.on 6 (by kernel_rfl))
        try simp only [puts, Act.put, List.setIfInBounds_toArray, List.set_cons_zero, List.set_cons_succ]
        try go_simp
        exact hK.out _ _ _ (by simp only [puts, Act.put, List.setIfInBounds_toArray, List.set_cons_zero, List.set_cons_succ] <;> rfl) ⟨hG, (fun h => f0.out h), (fun h => f1.out h), (fun h => f2.out h), (fun h => f3.out h), (fun h => f4.out h), (fun h => f5.out h), (fun h => f6.out h), (fun _ => rfl), (fun h => f8.out h), (fun h => f9.out h), (fun h => f10.out h), (fun h => f11.out h), (fun h => f12.out h), (fun h => f13.out h)⟩
       ·intro L vs W hlen hL hD hI K hK
        obtain ⟨x0, x1, x2, x3, x4, x5, x6, x7, x8, x9, x10, x11, x12, x13, rfl⟩ := len14 hlen
        have hG := hI.1
        replace hI := hI.2
        have f0 := hide hI.1
        replace hI := hI.2
        have f1 := hide hI.1
        replace hI := hI.2
        have f2 := hide hI.1
        replace hI := hI.2
        have f3 := hide hI.1
        replace hI := hI.2
        have f4 := hide hI.1
        replace hI := hI.2
        have f5 := hide hI.1
        replace hI := hI.2
        have f6 := hide hI.1
        replace hI := hI.2
        have f7 := hide hI.1
        replace hI := hI.2
        have f8 := hide hI.1
        replace hI := hI.2
        have f9 := hide hI.1
        replace hI := hI.2
        have f10 := hide hI.1
        replace hI := hI.2
        have f11 := hide hI.1
        replace hI := hI.2
        have f12 := hide hI.1
        replace hI := hI.2
        have f13 := hide hI
        clear hI
        try simp only [puts, Act.put, List.setIfInBounds_toArray, List.set_cons_zero, List.set_cons_succ]
        try go_simp
        exact hK.out _ _ _ (by simp only [puts, Act.put, List.setIfInBounds_toArray, List.set_cons_zero, List.set_cons_succ] <;> rfl) ⟨hG, (fun h => f0.out h), (fun h => f1.out h), (fun h => f2.out h), (fun h => f3.out h), (fun h => f4.out h), (fun h => f5.out h), (fun h => f6.out h), (fun h => f7.out h), (fun _ => rfl), (fun h => f9.out h), (fun h => f10.out h), (fun h => f11.out h), (fun h => f12.out h), (fun h => f13.out h)⟩
       ·intro L vs W hlen hL hD hI K hK
        obtain ⟨x0, x1, x2, x3, x4, x5, x6, x7, x8, x9, x10, x11, x12, x13, rfl⟩ := len14 hlen
        have hG := hI.1
        replace hI := hI.2
        have f0 := hide hI.1
        replace hI := hI.2
        have f1 := hide hI.1
        replace hI := hI.2
        have f2 := hide hI.1
        replace hI := hI.2
        have f3 := hide hI.1
        replace hI := hI.2
        have f4 := hide hI.1
        replace hI := hI.2
        have f5 := hide hI.1
        replace hI := hI.2
        have f6 := hide hI.1
        replace hI := hI.2
        have f7 := hide hI.1
        replace hI := hI.2
        have f8 := hide hI.1
        replace hI := hI.2
        have f9 := hide hI.1
        replace hI := hI.2
        have f10 := hide hI.1
        replace hI := hI.2
        have f11 := hide hI.1
        replace hI := hI.2
        have f12 := hide hI.1
        replace hI := hI.2
        have f13 := hide hI
        clear hI
        obtain rfl := f8.out (hD.on 8 (by kernel_rfl))
        try simp only [puts, Act.put, List.setIfInBounds_toArray, List.set_cons_zero, List.set_cons_succ]
        try go_simp
        generalize hW' : World.alloc W _ = W'
        have hb : Below W.heap.size W W' := by rw [← hW']; exact bal W _
        exact hK.out _ _ _ (by simp only [puts, Act.put, List.setIfInBounds_toArray, List.set_cons_zero, List.set_cons_succ] <;> rfl) ⟨below2 hG hb, (fun h => f0.out h), (fun h => f1.out h), (fun h => f2.out h), (fun h => f3.out h), (fun h => f4.out h), (fun h => f5.out h), (fun h => f6.out h), (fun h => f7.out h), (fun h => f8.out h), (fun _ => ⟨W.heap.size, rfl, by rw [← hW']; exact Blk.newA W _ rfl⟩), (fun h => (fun h => let ⟨va, vc, e, k⟩ := h; ⟨va, vc, e, ints_low k hb⟩) (f10.out h)), (fun h => f11.out h), (fun h => (fun h => h.later hb) (f12.out h)), (fun h => (fun h => h.later hb) (f13.out h))⟩
       ·intro L vs W hlen hL hD hI K hK
        obtain ⟨x0, x1, x2, x3, x4, x5, x6, x7, x8, x9, x10, x11, x12, x13, rfl⟩ := len14 hlen
        have hG := hI.1
        replace hI := hI.2
        have f0 := hide hI.1
        replace hI := hI.2
        have f1 := hide hI.1
        replace hI := hI.2
        have f2 := hide hI.1
        replace hI := hI.2
        have f3 := hide hI.1
        replace hI := hI.2
        have f4 := hide hI.1
        replace hI := hI.2
        have f5 := hide hI.1
        replace hI := hI.2
        have f6 := hide hI.1
        replace hI := hI.2
        have f7 := hide hI.1
        replace hI := hI.2
        have f8 := hide hI.1
        replace hI := hI.2
        have f9 := hide hI.1
        replace hI := hI.2
        have f10 := hide hI.1
        replace hI := hI.2
        have f11 := hide hI.1
        replace hI := hI.2
        have f12 := hide hI.1
        replace hI := hI.2
        have f13 := hide hI
        clear hI
        obtain rfl := f7.out (hD.on 7 (by kernel_rfl))
        have g9 := f9.out (hD.on 9 (by kernel_rfl))
        try simp only [puts, Act.put, List.setIfInBounds_toArray, List.set_cons_zero, List.set_cons_succ]
        obtain ⟨b0, rfl, hB0⟩ := g9
        refine step_cut1 rfl _ _ rfl (some ⟨lb, lo, none⟩) m (natsO p) rfl (ints_low HCT.out hG) b0 (x : Int) rfl hB0 hm1 ?_
        intro va vc W' hI hb
        exact hK.out _ _ _ (by simp only [puts, Act.put, List.setIfInBounds_toArray, List.set_cons_zero, List.set_cons_succ] <;> rfl) ⟨below2 hG hb, (fun h => f0.out h), (fun h => f1.out h), (fun h => f2.out h), (fun h => f3.out h), (fun h => f4.out h), (fun h => f5.out h), (fun h => f6.out h), (fun h => f7.out h), (fun h => f8.out h), (fun h => (fun h => let ⟨b0, e, k⟩ := h; ⟨b0, e, k.later hb⟩) (f9.out h)), (fun _ => ⟨va, vc, rfl, hI⟩), (fun h => f11.out h), (fun h => (fun h => h.later hb) (f12.out h)), (fun h => (fun h => h.later hb) (f13.out h))⟩
       ·intro L vs W hlen hL hD hI K hK
        obtain ⟨x0, x1, x2, x3, x4, x5, x6, x7, x8, x9, x10, x11, x12, x13, rfl⟩ := len14 hlen
        have hG := hI.1
        replace hI := hI.2
        have f0 := hide hI.1
        replace hI := hI.2
        have f1 := hide hI.1
        replace hI := hI.2
        have f2 := hide hI.1
        replace hI := hI.2
        have f3 := hide hI.1
        replace hI := hI.2
        have f4 := hide hI.1
        replace hI := hI.2
        have f5 := hide hI.1
        replace hI := hI.2
        have f6 := hide hI.1
        replace hI := hI.2
        have f7 := hide hI.1
        replace hI := hI.2
        have f8 := hide hI.1
        replace hI := hI.2
        have f9 := hide hI.1
        replace hI := hI.2
        have f10 := hide hI.1
        replace hI := hI.2
        have f11 := hide hI.1
        replace hI := hI.2
        have f12 := hide hI.1
        replace hI := hI.2
        have f13 := hide hI
        clear hI
        try simp only [puts, Act.put, List.setIfInBounds_toArray, List.set_cons_zero, List.set_cons_succ]
        try go_simp
        exact hK.out _ _ _ (by simp only [puts, Act.put, List.setIfInBounds_toArray, List.set_cons_zero, List.set_cons_succ] <;> rfl) ⟨hG, (fun h => f0.out h), (fun h => f1.out h), (fun h => f2.out h), (fun h => f3.out h), (fun h => f4.out h), (fun h => f5.out h), (fun h => f6.out h), (fun h => f7.out h), (fun h => f8.out h), (fun h => f9.out h), (fun h => f10.out h), (fun _ => rfl), (fun h => f12.out h), (fun h => f13.out h)⟩
       ·intro L vs W hlen hL hD hI K hK
        obtain ⟨x0, x1, x2, x3, x4, x5, x6, x7, x8, x9, x10, x11, x12, x13, rfl⟩ := len14 hlen
        have hG := hI.1
        replace hI := hI.2
        have f0 := hide hI.1
        replace hI := hI.2
        have f1 := hide hI.1
        replace hI := hI.2
        have f2 := hide hI.1
        replace hI := hI.2
        have f3 := hide hI.1
        replace hI := hI.2
        have f4 := hide hI.1
        replace hI := hI.2
        have f5 := hide hI.1
        replace hI := hI.2
        have f6 := hide hI.1
        replace hI := hI.2
        have f7 := hide hI.1
        replace hI := hI.2
        have f8 := hide hI.1
        replace hI := hI.2
        have f9 := hide hI.1
        replace hI := hI.2
        have f10 := hide hI.1
        replace hI := hI.2
        have f11 := hide hI.1
        replace hI := hI.2
        have f12 := hide hI.1
        replace hI := hI.2
        have f13 := hide hI
        clear hI
        obtain rfl := f0.out (hD.on 0 (by kernel_rfl))
        obtain rfl := f1.out (hD.on 1 (by kernel_rfl))
        have g10 := f10.out (hD.on 10 (by kernel_rfl))
        obtain rfl := f11.out (hD.on 11 (by kernel_rfl))
        try simp only [puts, Act.put, List.setIfInBounds_toArray, List.set_cons_zero, List.set_cons_succ]
        obtain ⟨va, vc, rfl, hI⟩ := g10
        have HC1 := hide (HCX.out W _ hI)
        go_simp
        refine HC1.out.mono ?_
        rintro e W' ⟨v, rfl, hv, hb⟩
        obtain ⟨ga, gm, gc, rfl, -⟩ := id hv
        try go_simp
        exact hK.out _ _ _ (by simp only [puts, Act.put, List.setIfInBounds_toArray, List.set_cons_zero, List.set_cons_succ] <;> rfl) ⟨below2 hG hb, (fun h => f0.out h), (fun h => f1.out h), (fun h => f2.out h), (fun h => f3.out h), (fun h => f4.out h), (fun h => f5.out h), (fun h => f6.out h), (fun h => f7.out h), (fun h => f8.out h), (fun h => (fun h => let ⟨b0, e, k⟩ := h; ⟨b0, e, k.later hb⟩) (f9.out h)), (fun h => (fun h => let ⟨va, vc, e, k⟩ := h; ⟨va, vc, e, ints_low k hb⟩) (f10.out h)), (fun h => f11.out h), (fun _ => hv), (fun h => (fun h => h.later hb) (f13.out h))⟩
       ·intro L vs W hlen hL hD hI K hK
        obtain ⟨x0, x1, x2, x3, x4, x5, x6, x7, x8, x9, x10, x11, x12, x13, rfl⟩ := len14 hlen
        have hG := hI.1
        replace hI := hI.2
        have f0 := hide hI.1
        replace hI := hI.2
        have f1 := hide hI.1
        replace hI := hI.2
        have f2 := hide hI.1
        replace hI := hI.2
        have f3 := hide hI.1
        replace hI := hI.2
        have f4 := hide hI.1
        replace hI := hI.2
        have f5 := hide hI.1
        replace hI := hI.2
        have f6 := hide hI.1
        replace hI := hI.2
        have f7 := hide hI.1
        replace hI := hI.2
        have f8 := hide hI.1
        replace hI := hI.2
        have f9 := hide hI.1
        replace hI := hI.2
        have f10 := hide hI.1
        replace hI := hI.2
        have f11 := hide hI.1
        replace hI := hI.2
        have f12 := hide hI.1
        replace hI := hI.2
        have f13 := hide hI
        clear hI
        have g12 := f12.out (hD.on 12 (by kernel_rfl))
        try simp only [puts, Act.put, List.setIfInBounds_toArray, List.set_cons_zero, List.set_cons_succ]
        obtain ⟨ga, gm, gc, rfl, hI⟩ := g12
        go_simp
        exact hK.out _ _ _ (by simp only [puts, Act.put, List.setIfInBounds_toArray, List.set_cons_zero, List.set_cons_succ] <;> rfl) ⟨hG, (fun h => f0.out h), (fun h => f1.out h), (fun h => f2.out h), (fun h => f3.out h), (fun h => f4.out h), (fun h => f5.out h), (fun h => f6.out h), (fun h => f7.out h), (fun h => f8.out h), (fun h => f9.out h), (fun h => f10.out h), (fun h => f11.out h), (fun h => f12.out h), (fun _ => ⟨ga, gm, gc, rfl, hI⟩)⟩
      intro L vs W hlen hall hI
      obtain ⟨x0, x1, x2, x3, x4, x5, x6, x7, x8, x9, x10, x11, x12, x13, rfl⟩ := len14 hlen
      have hG := hI.1
      replace hI := hI.2
      have f0 := hide hI.1
      replace hI := hI.2
      have f1 := hide hI.1
      replace hI := hI.2
      have f2 := hide hI.1
      replace hI := hI.2
      have f3 := hide hI.1
      replace hI := hI.2
      have f4 := hide hI.1
      replace hI := hI.2
      have f5 := hide hI.1
      replace hI := hI.2
      have f6 := hide hI.1
      replace hI := hI.2
      have f7 := hide hI.1
      replace hI := hI.2
      have f8 := hide hI.1
      replace hI := hI.2
      have f9 := hide hI.1
      replace hI := hI.2
      have f10 := hide hI.1
      replace hI := hI.2
      have f11 := hide hI.1
      replace hI := hI.2
      have f12 := hide hI.1
      replace hI := hI.2
      have f13 := hide hI
      clear hI
      obtain rfl := f0.out (hall 0 (by decide))
      obtain rfl := f1.out (hall 1 (by decide))
      obtain rfl := f2.out (hall 2 (by decide))
      obtain rfl := f3.out (hall 3 (by decide))
      obtain rfl := f4.out (hall 4 (by decide))
      obtain rfl := f5.out (hall 5 (by decide))
      obtain rfl := f6.out (hall 6 (by decide))
      obtain rfl := f7.out (hall 7 (by decide))
      obtain rfl := f8.out (hall 8 (by decide))
      have g9 := f9.out (hall 9 (by decide))
      have g10 := f10.out (hall 10 (by decide))
      obtain rfl := f11.out (hall 11 (by decide))
      have g12 := f12.out (hall 12 (by decide))
      have g13 := f13.out (hall 13 (by decide))
      have hal := hide hall
      clear hall f0 f1 f2 f3 f4 f5 f6 f7 f8 f9 f10 f11 f12 f13
      try simp only [puts, Act.put, List.setIfInBounds_toArray, List.set_cons_zero, List.set_cons_succ]
      obtain ⟨_, rfl, -⟩ := g9
      obtain ⟨_, _, rfl, -⟩ := g10
      obtain ⟨_, _, _, rfl, -⟩ := g12
      obtain ⟨ga, gm, gc, rfl, hI⟩ := g13
      have HBF := hide (HBR.out.trans (hG.mono HBR.out.size))
      have HBW := hide (below2 HXB.out HBF.out)
      clear hG hal
      cases r with
      | none =>
       obtain ⟨rfl, rfl, rfl⟩ := hI
       have HN := hide (HNO.out rfl)
       go_wp2_with fail
       go_roundw
       case rel => exact ⟨x + 1, by have := HX.out; omega, by go_num, HN.out, HBF.out⟩
       case measure => have := HX.out; simp [intOf]; omega
      | some c =>
       obtain ⟨⟨gb, go, rfl⟩, hI⟩ := hI
       have HI := hide hI
       have HN := hide (HYE.out c rfl)
       clear hI
       go_wp2_with fail
       go_ret
       exact ⟨_, rfl, by rw [HN.out]; exact ⟨_, _, _, rfl, ⟨_, _, rfl⟩, HI.out⟩, HBW.out⟩
    ·rw [hcp] at HCN HNX
     have HN := hide (HNX.out (by simp))
     clear hcp
     go_wp2_with fail
     refine HCN.out.mono ?_
     rintro e w5 ⟨rfl, hw5⟩
     obtain rfl := hw5.symm
     go_wp2_with fail
     clear t0 hcz
     go_roundw
     case rel => exact ⟨x + 1, by have := HX.out; omega, by go_num, HN.out, HBR.out⟩
     case measure => have := HX.out; simp [intOf]; omega
   ·obtain rfl : x = n := by omega
    go_wp2_with fail
    go_ret
    exact ⟨_, rfl, by rw [HEX.out, HFX.out]; exact ⟨none, 0, 0, rfl, rfl, rfl, rfl⟩, below2 HXB.out HBR.out⟩
end Go.Proofs.YtnidcoinfmcffaaDoor
