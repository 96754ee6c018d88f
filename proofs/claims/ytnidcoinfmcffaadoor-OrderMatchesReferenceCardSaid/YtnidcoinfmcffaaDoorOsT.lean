/- The walk of Chain (chapter 15). Conditions: how the order lies in memory. -/
import Derived.Test.YtnidcoinfmcffaaDoorOqB
import Derived.Test.YtnidcoinfmcffaaDoorOsJ
import Derived.Test.YtnidcoinfmcffaaDoorOpA
import Derived.Laws.EntriesVeiled
namespace Go.Proofs.YtnidcoinfmcffaaDoor
open Go.RowKit
attribute [local go_sem] Oper.semAt_some
theorem best_snoc (f : Nat → List Nat) (p : Nat → Bool) (l : List Nat) (r : List Nat) (b : Nat) : bestF f p (l ++ [b]) r = if p b && decide ((bestF f p l r).length < (f b).length) then f b else bestF f p l r := by
 unfold bestF
 rw [List.foldl_append]; rfl
theorem best_range (f : Nat → List Nat) (p : Nat → Bool) (k : Nat) : bestF f p (List.range (k + 1)) [] = if p k && decide ((bestF f p (List.range k) []).length < (f k).length) then f k else bestF f p (List.range k) [] := by
 rw [List.range_succ, best_snoc]
theorem best_len {f : Nat → List Nat} {p : Nat → Bool} {m : Nat} (hf : ∀ b, (f b).length ≤ m) : ∀ (l r : List Nat), r.length ≤ m → (bestF f p l r).length ≤ m
 | [], _, h => h
 | c :: l, r, h => by
  show (bestF f p l (if p c && decide (r.length < (f c).length) then f c else r)).length ≤ m
  refine best_len hf l _ ?_
  split
  ·exact hf c
  ·exact h
theorem from_len (R : RelO) (n : Nat) : ∀ k a, (fromE n R k a).length ≤ k + 1
 | 0, _ => Nat.le_refl _
 | k + 1, a => by
  show (bestF (fromE n R k) (R a) (List.range n) []).length + 1 ≤ k + 1 + 1
  have := best_len (p := R a) (from_len R n k) (List.range n) [] (by simp)
  omega
theorem mapSliT : Tryd.prog.underlying 75 = some (.map 3 26) := Tryd.underlying75
theorem zeroSliW (w : World) : (zeroValue 26).run Tryd.prog w = .ok (.slice none 0 0) w := by kernel_rfl
/-- many integers -/
theorem step_intsO {w : World} {ops : Array Oper} {K : Act → World → Prop} {E : Prop} {o : Oper} {a : Act} {Q : Exit → Act → World → Prop} (hgd : o.guard = none) (s x : Operand)
  (ho : o.op = .call { callee := .builtin .append, args := #[s, x], argTypes := #[26, 26] }) (B : Nat) (v : Value) (l : List Int) (hs : a.eval s = v) (hown : OwnI w B v l) (xv : Value) (lx : List Int)
  (hx : a.eval x = xv) (hxs : IntsAt w xv lx) (hlen : l.length + lx.length < 1000000) (hB : B ≤ w.heap.size)
  (h : ∀ v' w', OwnI w' B v' (l ++ lx) → Eff (fun k => some k = v.ownBlock) w w' → (v'.ownBlock = v.ownBlock ∨ ∀ g, v'.ownBlock = some g → w.heap.size ≤ g) → K (a.put o.dst v') w') :
  if Region.wanted o (yielded ops a.tmps) = true then Oper.wp Tryd.prog o a w K Q else E := by
 rw [if_pos (by simp [Region.wanted, hgd])]
 obtain ⟨i0, hi, hz0, hz1, hz2⟩ := info_parts infoInt
 obtain ⟨xa, c, rfl, -, -, hc⟩ := hxs
 cases xa with
 | none =>
  have e : lx = [] := by
   cases lx with
   | nil => rfl
   | cons y t => obtain ⟨b, o, e, -⟩ := hc 0 (by simp); cases e
  subst e
  have hrun : (Builtin.append_ #[26, 26] o.type #[v, .slice none 0 c]).run Tryd.prog w = .ok v w := by
   have h3 := hown
   rcases h3.2 with ⟨rfl, h4⟩ | ⟨g, cap, cur, rfl, _, _, hnc, _⟩
   ·simp [Builtin.append_, run_underlying Tryd.underlying26, sizeOf, typeInfo, hi, Builtin.lenOf, Builtin.firstCells]
   ·simp [Builtin.append_, run_underlying Tryd.underlying26, sizeOf, typeInfo, hi, Builtin.lenOf, Builtin.firstCells, hnc, storeCells]
  have hx' : a.eval x = .slice none 0 c := hx
  unfold Oper.wp execOp
  simp only [ho, resolve, invoke, builtin, Sem.run_bind, Sem.run_pure, Result.andThen_ok, List.map_toArray, List.map_cons, List.map_nil, hs, hx', hrun]
  exact (h v w (by simpa using hown) (Eff.refl _ _) (.inl rfl))
 | some ad =>
  have hlow : ad.block < w.heap.size → ∀ j u, (lx.map (Value.int .i64))[j]? = some u → w.cell? (ad.add j) = some u := fun _ j u hj => by
   rw [List.getElem?_map] at hj
   cases hl : lx[j]? with
   | none => simp [hl] at hj
   | some y =>
    have hjl : j < lx.length := (List.getElem?_eq_some_iff.1 hl).1
    obtain ⟨b, o', e, hcl⟩ := hc j hjl
    cases e
    have : u = .int .i64 (lx.getD j 0) := by rw [hl] at hj; rw [List.getD_eq_getElem?_getD, hl]; simpa using hj.symm
    rw [this]
    cases j <;> simpa [Addr.add] using hcl
  have hcells : ∀ j u, (lx.map (Value.int .i64))[j]? = some u → w.cell? (ad.add j) = some u := fun j u hj => by
   refine hlow ?_ j u hj
   have hjl : j < lx.length := by
    have := (List.getElem?_eq_some_iff.1 hj).1; simpa using this
   obtain ⟨b, o', e, hcl⟩ := hc j hjl
   cases e
   exact lt_of_cell (a := ⟨b, o' + j, none⟩) hcl
  obtain ⟨v', w', hrun, h2, h3, -, h5⟩ := run_append_own_at (P := Tryd.prog) w B 26 o.type 3 i0 (.int .i64 0) 1 8 Tryd.underlying26 hi hz0 hz1 hz2 rfl (by decide) v l.length (l.map (Value.int .i64)) hown
   ad lx.length c (lx.map (Value.int .i64)) (by simp) hcells (by intro u hu; obtain ⟨y, -, rfl⟩ := List.mem_map.1 hu; rfl) (by unfold maxLen; omega) (by omega) hB
  unfold Oper.wp execOp
  simp only [ho, resolve, invoke, builtin, Sem.run_bind, Sem.run_pure, Result.andThen_ok, List.map_toArray, List.map_cons, List.map_nil, hs, hx, hrun]
  refine (h v' w' (by simpa [OwnI] using h2) ⟨h3.os, h3.tape, h3.output, h3.size, fun b hb hn => h3.block b hb hn⟩ (h5.imp id fun e g hg => by rw [e] at hg; cases hg; exact Nat.le_refl _))
theorem step_intsT {W : World} {ops : Array Oper} {K : Act → World → Prop} {E : Prop} {o : Oper} {T : Array Value} {D : List Deferred} {Q : Exit → Act → World → Prop} (hgd : o.guard = none) (s x : Operand)
  (ho : o.op = .call { callee := .builtin .append, args := #[s, x], argTypes := #[26, 26] }) (B : Nat) (v : Value) (l : List Int) (hs : Act.eval ⟨T, D⟩ s = v) (hown : OwnI W B v l) (xv : Value) (lx : List Int)
  (hx : Act.eval ⟨T, D⟩ x = xv) (hxs : IntsAt W xv lx) (hlen : l.length + lx.length < 1000000) (hB : B ≤ W.heap.size)
  (h : ∀ v' w', OwnI w' B v' (l ++ lx) → Eff (fun k => some k = v.ownBlock) W w' → (v'.ownBlock = v.ownBlock ∨ ∀ g, v'.ownBlock = some g → W.heap.size ≤ g) → K (Act.put ⟨T, D⟩ o.dst v') w') :
  if Region.wanted o (yielded ops T) = true then Oper.wp Tryd.prog o ⟨T, D⟩ W K Q else E :=
 step_intsO (a := ⟨T, D⟩) hgd s x ho B v l hs hown xv lx hx hxs hlen hB h
/-- how many of the first n keys a map has -/
def cntG (n : Nat) (g : Int → Option Value) : Nat := ((List.range n).filter fun a => (g (a : Nat)).isSome).length
theorem cntG_le (n : Nat) (g : Int → Option Value) : cntG n g ≤ n := Nat.le_trans (List.length_filter_le _ _) (by simp)
theorem cntG_put {n a : Nat} {g : Int → Option Value} {v : Value} (ha : a < n) (h : g (a : Nat) = none) : cntG n g < cntG n (putO' g (a : Nat) v) :=
 filterO_lt (fun i _ hi => by
  unfold putO'
  split
  ·rfl
  ·exact hi) (List.mem_range.2 ha) (by unfold putO'; rw [if_pos rfl]; rfl) (by rw [h]; rfl)
/-- the function value 'from' -/
def fromV (O T Mb Fb : Nat) : Value := .func (.func 59) #[] #[.pointer (some ⟨Mb, 0, none⟩), .pointer (some ⟨O, 0, none⟩), .pointer (some ⟨T, 0, none⟩), .pointer (some ⟨Fb, 0, none⟩)]
/-- what stands while the chains are sought -/
structure ChG (n : Nat) (R : RelO) (B O T Mb Fb M : Nat) (pv : Value) (g : Int → Option Value) (clk : Nat) (W : World) : Prop where
 bO : Blk W O [.int .i64 n, pv] 25
 bT : Blk W T (tabC R) 65
 bM : Blk W Mb [.map (some M)] 75
 bF : Blk W Fb [fromV O T Mb Fb] 76
 map : OwnMap g W M clk
 small : clk ≤ cntG n g
 has : ∀ (a : Nat) (v : Value), a < n → g (a : Nat) = some v → IntsIn (frm B W) v (natsO (fromO n R a))
theorem ints_grown {g : Int → Option Value} {B M clk : Nat} {W W' : World} {v : Value} {l : List Int} (hm : OwnMap g W M clk) (hg : W.grownBy W' (some M)) (h : IntsIn (frm B W) v l) : IntsIn (frm B W') v l :=
 h.keeps fun a v hc => by
  obtain ⟨h1, h2⟩ := frm_block hc
  unfold frm
  rw [if_pos h1]
  exact mapcell hm hg h2
theorem ChG.later {n : Nat} {R : RelO} {B O T Mb Fb M : Nat} {pv : Value} {g : Int → Option Value} {clk : Nat} {W W' : World} (h : ChG n R B O T Mb Fb M pv g clk W) (hb : Below W.heap.size W W') : ChG n R B O T Mb Fb M pv g clk W' :=
 ⟨h.bO.later hb, h.bT.later hb, h.bM.later hb, h.bF.later hb, h.map.later hb, h.small, fun a v ha hv => ints_grown h.map (grownSO hb M) (h.has a v ha hv)⟩
theorem ChG.put {n : Nat} {R : RelO} {B O T Mb Fb M : Nat} {pv : Value} {g : Int → Option Value} {clk : Nat} {W W' : World} (h : ChG n R B O T Mb Fb M pv g clk W) {a : Nat} (ha : a < n) (hga : g (a : Nat) = none) {v : Value} (hv : IntsIn (frm B W') v (natsO (fromO n R a)))
  (hm : OwnMap (putO' g (a : Nat) v) W' M (clk + 1)) (hg : W.grownBy W' (some M)) : ChG n R B O T Mb Fb M pv (putO' g (a : Nat) v) (clk + 1) W' :=
 ⟨mapblk h.map hg h.bO, mapblk h.map hg h.bT, mapblk h.map hg h.bM, mapblk h.map hg h.bF, hm, by have := cntG_put (v := v) ha hga; have := h.small; omega, fun x u hx hu => by
  unfold putO' at hu
  split at hu
  ·rename_i e
   cases hu
   obtain rfl : x = a := by omega
   exact hv
  ·exact ints_grown h.map hg (h.has x u hx hu)⟩
/-- a call of 'from' -/
def Ch1Q (n : Nat) (R : RelO) (B O T Mb Fb M : Nat) (pv : Value) (a : Nat) (g : Int → Option Value) (W : World) (e : Ending) (W' : World) : Prop :=
 ∃ (v : Value) (g' : Int → Option Value) (clk' : Nat), e = .returned v ∧ IntsIn (frm B W') v (natsO (fromO n R a)) ∧ ChG n R B O T Mb Fb M pv g' clk' W' ∧ W.grownBy W' (some M) ∧ ∀ x : Nat, g' (x : Nat) ≠ g (x : Nat) → x = a ∨ R a x = true
set_option maxRecDepth 100000 in
set_option maxHeartbeats 2000000 in
theorem chain1_any {n : Nat} {R : RelO} (hR : PoO n R) (hn : n ≤ 8) (B O T Mb Fb M : Nat) (pv : Value) : ∀ (c a : Nat), a < n → succN n R a < c → ∀ (g : Int → Option Value) (clk : Nat) (W : World), B ≤ W.heap.size → ChG n R B O T Mb Fb M pv g clk W →
  Calls Tryd.prog 59 #[.int .i64 a, .pointer (some ⟨Mb, 0, none⟩), .pointer (some ⟨O, 0, none⟩), .pointer (some ⟨T, 0, none⟩), .pointer (some ⟨Fb, 0, none⟩)] W (Ch1Q n R B O T Mb Fb M pv a g W) := by
 intro c
 induction c with
 | zero => intro a _ h; exact absurd h (Nat.not_lt_zero _)
 | succ c ih =>
  intro a ha hc g clk W hB hG
  have m0 := hG.bM.cell 0 rfl
  have hl := hG.map.look mapSliT zeroSliW (x := (a : Nat)) (by omega) (by omega)
  have HG := hide hG
  cases hg : g (a : Nat) with
  | some v =>
   rw [hg] at hl
   have HV := hide (hG.has a v ha hg)
   clear hG ih
   go_enter Tryd.func59, Tryd.ntmps59
   go_wp2_with fail
   go_ret
   exact ⟨v, g, clk, rfl, HV.out, HG.out.later (by first | exact Below.refl _ _ | exact (Below.refl _ _).drew), grownSO (by first | exact Below.refl _ _ | exact (Below.refl _ _).drew) M, fun _ h => absurd rfl h⟩
  | none =>
   rw [hg] at hl
   have HGA := hide hg
   have o0 := hG.bO.cell 0 rfl
   have HIR := hide (hR.irr a)
   have HTR := hide (fun b x (h1 : R a b = true) (h2 : R b x = true) => hR.tr a b x h1 h2)
   have HIH := hide (fun b (hb : b < n) (hr : R a b = true) => ih b hb (Nat.lt_of_lt_of_le (succ_lt hR hr) (Nat.le_of_lt_succ hc)))
   have HFE := hide (from_eq hR a)
   have HBR := hide (fun k => best_range (fromO n R) (R a) k)
   have HB0 : Hid (bestF (fromO n R) (R a) (List.range 0) [] = []) := hide rfl
   have HBL := hide (best_len (f := fromO n R) (p := R a) (m := 9) (fun b => Nat.le_trans (from_len R n n b) (by omega)) (List.range n) [] (by simp))
   have ha8 : a < 8 := by omega
   have HA := hide ha
   clear hG ih hc hg
   go_enter Tryd.func59, Tryd.ntmps59
   go_wp2_with fail
   go_loopw [9, 21] (fun rv i wr => ∃ (b : Nat) (g' : Int → Option Value) (clk' : Nat), b ≤ n ∧ i = .int .i64 b ∧ IntsIn (frm B wr) rv (natsO (bestF (fromO n R) (R a) (List.range b) [])) ∧ ChG n R B O T Mb Fb M pv g' clk' wr ∧ W.grownBy wr (some M) ∧ ∀ x : Nat, g' (x : Nat) ≠ g (x : Nat) → R a x = true) (fun _ i _ => n - (intOf i).toNat)
   case atStart => exact ⟨0, g, clk, by omega, rfl, by rw [HB0.out]; exact IntsIn.nil _, HG.out.later (by first | exact Below.refl _ _ | exact (Below.refl _ _).drew), grownSO (by first | exact Below.refl _ _ | exact (Below.refl _ _).drew) M, fun _ h => absurd rfl h⟩
   case round =>
    obtain ⟨b, g', clk', hb, rfl, hrv, hG', hgr, hgk⟩ := hrel
    obtain ⟨ra, rc, rfl, hr1, hr2, hr3⟩ := id hrv
    have hrl : (natsO (bestF (fromO n R) (R a) (List.range b) [])).length = (bestF (fromO n R) (R a) (List.range b) []).length := by unfold natsO; rw [List.length_map]
    by_cases hlt : b < n
    ·have hltI : (b : Int) < n := by omega
     have HK := hide hlt
     have hb8 : b < 8 := by omega
     have hb8I : (b : Int) < 8 := by omega
     have t0 := hG'.bT.cell b (tabC_get _ b hb8)
     have f0 := hG'.bF.cell 0 rfl
     unfold fromV at f0
     obtain ⟨S, hS⟩ : ∃ S : Nat, bitsO (fun x => R x b) = S := ⟨_, rfl⟩
     have hS8 : S < 256 := by rw [← hS]; exact bits_lt _
     rw [show setI R b = (S : Int) by show ((bitsO _ : Nat) : Int) = _; rw [hS]] at t0
     have hbt := bit_test (k := a) hS8
     rw [← hS, bits_test, decide_eq_true ha8, Bool.true_and, hS] at hbt
     have HRV := hide hrv
     have HG1 := hide hG'
     have HGR := hide hgr
     have HGK := hide hgk
     have HBR1 := hide (HBR.out b)
     clear hrv hG' hgr hgk hr1 hr2 hr3 hS
     cases hr : R a b
     ·rw [hr] at hbt HBR1
      clear hr
      go_wp2_with fail
      go_roundw
      case rel => exact ⟨b + 1, g', clk', by have := HK.out; omega, by go_num, by (have h := HBR1.out; rw [Bool.false_and, if_neg (by decide)] at h; rw [h]; exact HRV.out), HG1.out, HGR.out, HGK.out⟩
      case measure => have := HK.out; simp [intOf]; omega
     ·rw [hr] at hbt HBR1
      have HC := hide (HIH.out b hlt hr g' clk')
      have HRR := hide hr
      have HIB := hide (HIH.out b hlt hr)
      clear hr
      go_wp2_with fail
      refine (HC.out _ (Nat.le_trans hB HGR.out.size) HG1.out).mono ?_
      rintro e W2 ⟨v2, g2, clk2, rfl, hv2, hG2, hgr2, hgk2⟩
      have HRV2 := hide (ints_grown HG1.out.map hgr2 HRV.out)
      have HV2 := hide hv2
      obtain ⟨va, vc, rfl, -, -, -⟩ := id hv2
      have hfl : (natsO (fromO n R b)).length = (fromO n R b).length := by unfold natsO; rw [List.length_map]
      have HGR2 := hide (grown2O HGR.out hgr2)
      have HGK2 : Hid (∀ x : Nat, g2 (x : Nat) ≠ g (x : Nat) → R a x = true) := hide (fun x hx => by
       by_cases e : g2 (x : Nat) = g' (x : Nat)
       ·exact HGK.out x (by rw [← e]; exact hx)
       ·rcases hgk2 x e with rfl | h
        ·exact HRR.out
        ·exact HTR.out b x HRR.out h)
      have HG2 := hide hG2
      have HC2 := hide (HIB.out g2 clk2 _ (Nat.le_trans hB HGR2.out.size) hG2)
      have f1 := hG2.bF.cell 0 rfl
      unfold fromV at f1
      clear hv2 hgr2 hgk2 hG2 HC HIB f0 t0
      by_cases hgt : (bestF (fromO n R) (R a) (List.range b) []).length < (fromO n R b).length
      ·have hgtI : ((bestF (fromO n R) (R a) (List.range b) []).length : Int) < ((fromO n R b).length : Int) := by omega
       have HN : Hid (bestF (fromO n R) (R a) (List.range (b + 1)) [] = fromO n R b) := hide (by have h := HBR1.out; rw [Bool.true_and, decide_eq_true hgt, if_pos rfl] at h; exact h)
       clear hgt
       go_wp2_with fail
       refine HC2.out.mono ?_
       rintro e W3 ⟨v3, g3, clk3, rfl, hv3, hG3, hgr3, hgk3⟩
       have HV3 := hide hv3
       have HG3 := hide hG3
       have HGR3 := hide (grown2O HGR2.out hgr3)
       have HGK3 : Hid (∀ x : Nat, g3 (x : Nat) ≠ g (x : Nat) → R a x = true) := hide (fun x hx => by
        by_cases e : g3 (x : Nat) = g2 (x : Nat)
        ·exact HGK2.out x (by rw [← e]; exact hx)
        ·rcases hgk3 x e with rfl | h
         ·exact HRR.out
         ·exact HTR.out b x HRR.out h)
       clear hv3 hG3 hgr3 hgk3 HC2
       go_wp2_with fail
       go_roundw
       case rel => exact ⟨b + 1, g3, clk3, by have := HK.out; omega, by go_num, by rw [HN.out]; exact HV3.out, HG3.out, HGR3.out, HGK3.out⟩
       case measure => have := HK.out; simp [intOf]; omega
      ·have hgtI : ¬ ((bestF (fromO n R) (R a) (List.range b) []).length : Int) < ((fromO n R b).length : Int) := by omega
       have HN : Hid (bestF (fromO n R) (R a) (List.range (b + 1)) [] = bestF (fromO n R) (R a) (List.range b) []) := hide (by have h := HBR1.out; rw [Bool.true_and, decide_eq_false hgt, if_neg (by decide)] at h; exact h)
       clear hgt
       go_wp2_with fail
       go_roundw
       case rel => exact ⟨b + 1, g2, clk2, by have := HK.out; omega, by go_num, by (rw [HN.out]; have h := HRV2.out; rw [hrl] at h; exact h), HG2.out, HGR2.out, HGK2.out⟩
       case measure => have := HK.out; simp [intOf]; omega
    ·obtain rfl : b = n := by omega
     have HGA' : Hid (g' (a : Nat) = none) := hide (by
      by_cases e : g' (a : Nat) = g (a : Nat)
      ·rw [e]; exact HGA.out
      ·have := hgk a e; rw [HIR.out] at this; cases this)
     have hLR := HBL.out
     have HRV := hide hrv
     have HG1 := hide hG'
     have HGR := hide hgr
     have HGK := hide hgk
     have hclk : clk' < 1000000 := by have := hG'.small; have := cntG_le b g'; omega
     rw [hrl]
     have HRL := hide hrl
     have hFE := HFE.out
     clear hrv hG' hgr hgk hr1 hr2 hr3 hrl
     generalize bestF (fromO b R) (R a) (List.range b) [] = LR at *
     go_wp2_with fail
     refine wp_region_inv [some 44, some 45, some 46, some 47, some 48, some 49, none] (fun L vs W => match vs with | [x0, x1, x2, x3, x4, x5, x6] => ((L 6 = false → Below wr.heap.size wr W) ∧ wr.grownBy W (some M)) ∧ (L 0 = true → x0 = .map (some M)) ∧ (L 1 = true → x1 = .int .i64 a) ∧ (L 2 = true → x2 = .int .i64 a) ∧ (L 3 = true → L 5 = false → ∃ b0 : Nat, wr.heap.size ≤ b0 ∧ x3 = .slice (some ⟨b0, 0, none⟩) 1 1 ∧ OwnI W wr.heap.size (.slice (some ⟨b0, 0, none⟩) 1 1) [(a : Int)]) ∧ (L 4 = true → x4 = .slice ra LR.length rc) ∧ (L 5 = true → L 3 = true ∧ (L 6 = false → OwnI W wr.heap.size x5 ((a : Int) :: natsO LR))) ∧ (L 6 = true → (L 3 = true ∧ L 5 = true) ∧ OwnMap (putO' g' (a : Nat) x5) W M (clk' + 1) ∧ IntsIn (frm B W) x5 ((a : Int) :: natsO LR)) | _ => False) [_, _, _, _, _, _, undef] (by kernel_rfl) (by kernel_rfl) rfl (by simp only [puts, Act.put, List.setIfInBounds_toArray, List.set_cons_zero, List.set_cons_succ] <;> rfl) ?_ ?_ ?_
     ·exact ⟨⟨fun _ => (Below.refl _ _).drew, grownSO (Below.refl _ _).drew M⟩, (fun h => by cases h), (fun h => by cases h), (fun h => by cases h), (fun h => by cases h), (fun h => by cases h), (fun h => by cases h), (fun h => by cases h)⟩
     ·refine ⟨?_, ?_, ?_, ?_, ?_, ?_, ?_, trivial⟩
      ·intro L vs W hlen hL hD hI K hK
       obtain ⟨x0, x1, x2, x3, x4, x5, x6, rfl⟩ := len7 hlen
       have hG := hI.1
       replace hI := hI.2
       have f0 := hide hI.1
       replace hI := hI.2
       have f1 := hide hI.1
       replace hI := hI.2
       have f2 := hide hI.1
       replace hI := hI.2
       have f3 := hide hI.1
       replace hI := hI.2
       have f4 := hide hI.1
       replace hI := hI.2
       have f5 := hide hI.1
       replace hI := hI.2
       have f6 := hide hI
       clear hI
       try simp only [puts, Act.put, List.setIfInBounds_toArray, List.set_cons_zero, List.set_cons_succ]
       have z0 := (mapblk HG1.out.map hG.2 HG1.out.bM).cell 0 rfl
       go_simp
       exact hK.out _ _ _ (by simp only [puts, Act.put, List.setIfInBounds_toArray, List.set_cons_zero, List.set_cons_succ] <;> rfl) ⟨hG, (fun _ => rfl), (fun h => f1.out h), (fun h => f2.out h), (fun h => f3.out h), (fun h => f4.out h), (fun h => f5.out h), (fun h => f6.out h)⟩
      ·intro L vs W hlen hL hD hI K hK
       obtain ⟨x0, x1, x2, x3, x4, x5, x6, rfl⟩ := len7 hlen
       have hG := hI.1
       replace hI := hI.2
       have f0 := hide hI.1
       replace hI := hI.2
       have f1 := hide hI.1
       replace hI := hI.2
       have f2 := hide hI.1
       replace hI := hI.2
       have f3 := hide hI.1
       replace hI := hI.2
       have f4 := hide hI.1
       replace hI := hI.2
       have f5 := hide hI.1
       replace hI := hI.2
       have f6 := hide hI
       clear hI
       try simp only [puts, Act.put, List.setIfInBounds_toArray, List.set_cons_zero, List.set_cons_succ]
       try go_simp
       exact hK.out _ _ _ (by simp only [puts, Act.put, List.setIfInBounds_toArray, List.set_cons_zero, List.set_cons_succ] <;> rfl) ⟨hG, (fun h => f0.out h), (fun _ => rfl), (fun h => f2.out h), (fun h => f3.out h), (fun h => f4.out h), (fun h => f5.out h), (fun h => f6.out h)⟩
      ·intro L vs W hlen hL hD hI K hK
       obtain ⟨x0, x1, x2, x3, x4, x5, x6, rfl⟩ := len7 hlen
       have hG := hI.1
       replace hI := hI.2
       have f0 := hide hI.1
       replace hI := hI.2
       have f1 := hide hI.1
       replace hI := hI.2
       have f2 := hide hI.1
       replace hI := hI.2
       have f3 := hide hI.1
       replace hI := hI.2
       have f4 := hide hI.1
       replace hI := hI.2
       have f5 := hide hI.1
       replace hI := hI.2
       have f6 := hide hI
       clear hI
       try simp only [puts, Act.put, List.setIfInBounds_toArray, List.set_cons_zero, List.set_cons_succ]
       try go_simp
       exact hK.out _ _ _ (by simp only [puts, Act.put, List.setIfInBounds_toArray, List.set_cons_zero, List.set_cons_succ] <;> rfl) ⟨hG, (fun h => f0.out h), (fun h => f1.out h), (fun _ => rfl), (fun h => f3.out h), (fun h => f4.out h), (fun h => f5.out h), (fun h => f6.out h)⟩
      ·intro L vs W hlen hL hD hI K hK
       obtain ⟨x0, x1, x2, x3, x4, x5, x6, rfl⟩ := len7 hlen
       have hG := hI.1
       replace hI := hI.2
       have f0 := hide hI.1
       replace hI := hI.2
       have f1 := hide hI.1
       replace hI := hI.2
       have f2 := hide hI.1
       replace hI := hI.2
       have f3 := hide hI.1
       replace hI := hI.2
       have f4 := hide hI.1
       replace hI := hI.2
       have f5 := hide hI.1
       replace hI := hI.2
       have f6 := hide hI
       clear hI
       obtain rfl := f2.out (hD.on 2 (by kernel_rfl))
       try simp only [puts, Act.put, List.setIfInBounds_toArray, List.set_cons_zero, List.set_cons_succ]
       try go_simp
       generalize hW' : World.alloc W _ = W'
       have hb : Below W.heap.size W W' := by rw [← hW']; exact bal W _
       exact hK.out _ _ _ (by simp only [puts, Act.put, List.setIfInBounds_toArray, List.set_cons_zero, List.set_cons_succ] <;> rfl) ⟨⟨fun h => below2 (hG.1 h) hb, grown2O hG.2 (grownSO hb M)⟩, (fun h => f0.out h), (fun h => f1.out h), (fun h => f2.out h), (fun _ => fun _ => ⟨W.heap.size, hG.2.size, rfl, own_weak (by rw [← hW']; exact World.ownsRow_lit W #[.int .i64 a] 1 (Nat.le_refl _) (by unfold maxLen; omega) rfl) hG.2.size⟩), (fun h => f4.out h), (fun h => (fun h => absurd (h.1.symm.trans hL) (by decide)) (f5.out h)), (fun h => (fun h => absurd (h.1.1.symm.trans hL) (by decide)) (f6.out h))⟩
      ·intro L vs W hlen hL hD hI K hK
       obtain ⟨x0, x1, x2, x3, x4, x5, x6, rfl⟩ := len7 hlen
       have hG := hI.1
       replace hI := hI.2
       have f0 := hide hI.1
       replace hI := hI.2
       have f1 := hide hI.1
       replace hI := hI.2
       have f2 := hide hI.1
       replace hI := hI.2
       have f3 := hide hI.1
       replace hI := hI.2
       have f4 := hide hI.1
       replace hI := hI.2
       have f5 := hide hI.1
       replace hI := hI.2
       have f6 := hide hI
       clear hI
       try simp only [puts, Act.put, List.setIfInBounds_toArray, List.set_cons_zero, List.set_cons_succ]
       try go_simp
       exact hK.out _ _ _ (by simp only [puts, Act.put, List.setIfInBounds_toArray, List.set_cons_zero, List.set_cons_succ] <;> rfl) ⟨hG, (fun h => f0.out h), (fun h => f1.out h), (fun h => f2.out h), (fun h => f3.out h), (fun _ => rfl), (fun h => f5.out h), (fun h => f6.out h)⟩
      ·intro L vs W hlen hL hD hI K hK
       obtain ⟨x0, x1, x2, x3, x4, x5, x6, rfl⟩ := len7 hlen
       have hG := hI.1
       replace hI := hI.2
       have f0 := hide hI.1
       replace hI := hI.2
       have f1 := hide hI.1
       replace hI := hI.2
       have f2 := hide hI.1
       replace hI := hI.2
       have f3 := hide hI.1
       replace hI := hI.2
       have f4 := hide hI.1
       replace hI := hI.2
       have f5 := hide hI.1
       replace hI := hI.2
       have f6 := hide hI
       clear hI
       have g3 := f3.out (hD.on 3 (by kernel_rfl))
       obtain rfl := f4.out (hD.on 4 (by kernel_rfl))
       try simp only [puts, Act.put, List.setIfInBounds_toArray, List.set_cons_zero, List.set_cons_succ]
       have h6 : L 6 = false := Bool.eq_false_iff.2 (fun h => absurd ((f6.out h).1.2.symm.trans hL) (by decide))
       obtain ⟨b0, hb0, rfl, hO0⟩ := g3 hL
       have hIR := (ints_grown HG1.out.map hG.2 HRV.out).at
       rw [HRL.out] at hIR
       refine step_intsT rfl _ _ rfl wr.heap.size (.slice (some ⟨b0, 0, none⟩) 1 1) [(a : Int)] rfl hO0 (.slice ra LR.length rc) (natsO LR) rfl hIR (by rw [HRL.out]; simp; omega) hG.2.size ?_
       intro v5 W' hO5 hE5 _
       have hb5 : Below wr.heap.size wr W' := ⟨hE5.os.trans hG.2.os, hE5.tape.trans hG.2.tape, hE5.output.trans hG.2.output, Nat.le_trans hG.2.size hE5.size, fun k hk => (hE5.block k (by have := hG.2.size; omega) (by intro e; have e : k = b0 := Option.some.inj e; omega)).trans ((hG.1 h6).block k hk)⟩
       have hb : True := trivial
       exact hK.out _ _ _ (by simp only [puts, Act.put, List.setIfInBounds_toArray, List.set_cons_zero, List.set_cons_succ] <;> rfl) ⟨⟨fun _ => hb5, grownSO hb5 M⟩, (fun h => f0.out h), (fun h => f1.out h), (fun h => f2.out h), (fun h => (fun _ h8 => absurd h8 (by simp)) (f3.out h)), (fun h => f4.out h), (fun _ => ⟨hD.on 3 (by kernel_rfl), fun _ => hO5⟩), (fun h => (fun h => absurd (h.1.2.symm.trans hL) (by decide)) (f6.out h))⟩
      ·intro L vs W hlen hL hD hI K hK
       obtain ⟨x0, x1, x2, x3, x4, x5, x6, rfl⟩ := len7 hlen
       have hG := hI.1
       replace hI := hI.2
       have f0 := hide hI.1
       replace hI := hI.2
       have f1 := hide hI.1
       replace hI := hI.2
       have f2 := hide hI.1
       replace hI := hI.2
       have f3 := hide hI.1
       replace hI := hI.2
       have f4 := hide hI.1
       replace hI := hI.2
       have f5 := hide hI.1
       replace hI := hI.2
       have f6 := hide hI
       clear hI
       obtain rfl := f0.out (hD.on 0 (by kernel_rfl))
       obtain rfl := f1.out (hD.on 1 (by kernel_rfl))
       have g5 := f5.out (hD.on 5 (by kernel_rfl))
       try simp only [puts, Act.put, List.setIfInBounds_toArray, List.set_cons_zero, List.set_cons_succ]
       obtain ⟨h3, hO5⟩ := g5
       have hO5 := hO5 hL
       have hbl := hG.1 hL
       obtain ⟨W', hput, hm', hgr'⟩ := (HG1.out.map.later hbl).put mapSliT hclk (x := (a : Nat)) (by omega) (by omega) x5
       have hi5 := ints_grown (HG1.out.map.later hbl) hgr' (hO5.intsF (Nat.le_trans hB HGR.out.size))
       go_simp
       exact hK.out _ undef _ (by simp only [puts, Act.put, List.setIfInBounds_toArray, List.set_cons_zero, List.set_cons_succ] <;> rfl) ⟨⟨(fun h => by cases h), grown2O hG.2 hgr'⟩, (fun h => f0.out h), (fun h => f1.out h), (fun h => f2.out h), (fun h => (fun _ h5 => absurd ((hD.on 5 (by kernel_rfl)).symm.trans h5) (by decide)) (f3.out h)), (fun h => f4.out h), (fun h => (fun h => ⟨h.1, fun h6 => absurd h6 (by simp)⟩) (f5.out h)), (fun _ => ⟨⟨h3, hD.on 5 (by kernel_rfl)⟩, hm', hi5⟩)⟩
     intro L vs W hlen hall hI
     obtain ⟨x0, x1, x2, x3, x4, x5, x6, rfl⟩ := len7 hlen
     have hG := hI.1
     replace hI := hI.2
     have f0 := hide hI.1
     replace hI := hI.2
     have f1 := hide hI.1
     replace hI := hI.2
     have f2 := hide hI.1
     replace hI := hI.2
     have f3 := hide hI.1
     replace hI := hI.2
     have f4 := hide hI.1
     replace hI := hI.2
     have f5 := hide hI.1
     replace hI := hI.2
     have f6 := hide hI
     clear hI
     obtain rfl := f0.out (hall 0 (by decide))
     obtain rfl := f1.out (hall 1 (by decide))
     obtain rfl := f2.out (hall 2 (by decide))
     have g3 := f3.out (hall 3 (by decide))
     obtain rfl := f4.out (hall 4 (by decide))
     have g5 := f5.out (hall 5 (by decide))
     have g6 := f6.out (hall 6 (by decide))
     have hal := hide hall
     clear hall f0 f1 f2 f3 f4 f5 f6
     try simp only [puts, Act.put, List.setIfInBounds_toArray, List.set_cons_zero, List.set_cons_succ]
     obtain ⟨-, hm6, hi6⟩ := g6
     have hgW := hG.2
     have m6 := (mapblk HG1.out.map hgW HG1.out.bM).cell 0 rfl
     have hl6 := hm6.at mapSliT zeroSliW (x := (a : Nat)) (by omega) (by omega)
     have e6 : (putO' g' (a : Nat) x5 (a : Nat)).getD (.slice none 0 0) = x5 := by unfold putO'; rw [if_pos rfl]; rfl
     rw [e6] at hl6
     have HI6 := hide hi6
     have HM6 := hide hm6
     have HGW := hide hgW
     clear hi6 hm6 hgW hG hal g3 g5
     go_wp2_with fail
     go_ret
     have hv6 : IntsIn (frm B W) x5 (natsO (fromO b R a)) := by
      rw [hFE]; exact HI6.out
     refine ⟨x5, putO' g' (a : Nat) x5, clk' + 1, rfl, hv6, HG1.out.put HA.out HGA'.out hv6 HM6.out HGW.out, grown2O HGR.out HGW.out, fun x hx => ?_⟩
     unfold putO' at hx
     by_cases e : (x : Int) = (a : Nat)
     ·exact .inl (by omega)
     ·rw [if_neg e] at hx
      exact .inr (HGK.out x hx)
end Go.Proofs.YtnidcoinfmcffaaDoor
