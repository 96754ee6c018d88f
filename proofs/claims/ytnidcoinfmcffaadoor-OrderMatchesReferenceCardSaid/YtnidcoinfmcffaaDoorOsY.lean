/- The walk of Cover (chapter 15). Conditions: how the order lies in memory. -/
import Derived.Test.YtnidcoinfmcffaaDoorOsW
import Derived.StillTailTactics
namespace Go.Proofs.YtnidcoinfmcffaaDoor
open Go.RowKit
attribute [local go_sem] Oper.semAt_some
theorem cover_no (o : OrderD) (pv : Value) (w : World) (hp : PairsIn w.cell? pv o.pairs) (hv : validO o = false) : Calls Tryd.prog 31 #[orderV o.n pv] w (Ret (.tuple #[.slice none 0 0, .int .i64 150]) w) := by
 obtain ⟨on, ps⟩ := o
 obtain ⟨pa, pm, rfl, -, -, -⟩ := id hp
 have HR := hide (fun W (hb : Below w.heap.size w W) => by
  have h := read_any ⟨on, ps⟩ (.slice pa ps.length pm) W (RecIn.below hb hp)
  rw [hv] at h
  exact h)
 generalize readO ⟨on, ps⟩ = R at *
 clear hp hv
 go_enter Tryd.func31, Tryd.ntmps31
 go_wp2_with fail
 generalize hX1 : World.alloc w _ = X1
 have zX1 : X1.heap.size = w.heap.size + 1 := by rw [← hX1]; simp
 have bX1 : Below w.heap.size w X1 := by rw [← hX1]; exact bal w _
 have bO : Blk X1 (w.heap.size) [.int .i64 on, .slice pa ps.length pm] 25 := by rw [← hX1]; exact Blk.newA w _ (by first | rfl | simp)
 have Xb := bX1
 have Xz := zX1
 clear hX1 zX1 bX1
 have c0 := bO.cell 0 rfl
 have c1 := bO.cell 1 rfl
 refine (HR.out _ Xb).mono ?_
 rintro e w1 ⟨rfl, hb⟩
 have hw := below2 Xb hb
 clear c0 c1 bO hb Xb Xz
 go_wp2_with fail
 go_ret2
 exact ⟨rfl, below2 hw (bal _ _)⟩
theorem FoG.zero {n : Nat} {R : RelO} {O T Sn La Fb : Nat} {pv : Value} {s : KuhnO} {W : World} (h : FoG n R O T Sn La Fb pv s W) : FoG n R O T Sn La Fb pv ⟨s.last, fun _ => false⟩ (W.setCell ⟨Sn, 0, none⟩ (.int .i64 0)) := by
 refine ⟨h.bO.other (blk_ne h.bO h.bS (by decide)) _ _, h.bT.other (blk_ne h.bT h.bS (by decide)) _ _, ?_, h.bL.other (blk_ne h.bL h.bS (by decide)) _ _, h.bF.other (blk_ne h.bF h.bS (by decide)) _ _⟩
 have := h.bS.set 0 (.int .i64 0)
 have e : bitsO (fun _ => false) = 0 := rfl
 show Blk _ Sn [.int .i64 ((bitsO (fun _ => false) : Nat) : Int)] 3
 rw [e]; exact this
/-- what stands while the chains are laid -/
structure CovG (W1 : World) (B M : Nat) (ov : Value) (s : List (List Nat) × (Nat → Option Nat)) (clk : Nat) (us : List Value) (W : World) : Prop where
 own : OwnL W B ov us (natsL s.1)
 map : OwnMap (cvG s.2) W M clk
 hE : Eff (fun k => k = M ∨ B ≤ k) W1 W
theorem CovG.blk {W1 W : World} {M clk clk0 : Nat} {ov : Value} {s : List (List Nat) × (Nat → Option Nat)} {us : List Value} {g : Int → Option Value} (h : CovG W1 W1.heap.size M ov s clk us W) (hm : OwnMap g W1 M clk0) {b : Nat} {vs : List Value} {t : TypeId} (hb : Blk W1 b vs t) : Blk W b vs t :=
 hb.eff h.hE fun e => by
  rcases e with e | e
  ·exact hm.no_blk hb e
  ·have := hb.lt; omega
theorem CovG.cell {W1 W : World} {M clk clk0 : Nat} {ov : Value} {s : List (List Nat) × (Nat → Option Nat)} {us : List Value} {g : Int → Option Value} (h : CovG W1 W1.heap.size M ov s clk us W) (hm : OwnMap g W1 M clk0) {a : Addr} {v : Value} (hc : W1.cell? a = some v) : W.cell? a = some v :=
 (World.cell?_of_block (h.hE.block a.block (lt_of_cell hc) fun e => by
  rcases e with e | e
  ·exact hm.no_cell hc e
  ·have := lt_of_cell hc; omega)).trans hc
theorem row_len {α : Type} : ∀ {L : List (List α)} (k : Nat), (L.getD k []).length ≤ L.flatten.length
 | [], k => by simp
 | a :: L, 0 => by simp
 | a :: L, k + 1 => by
  have := row_len (L := L) k
  simp only [List.getD_cons_succ, List.flatten_cons, List.length_append]
  omega
theorem grown_map {w w' : World} {M B : Nat} (h : w.grownBy w' (some M)) : Eff (fun k => k = M ∨ B ≤ k) w w' := (Eff.of_grown h).mono fun _ _ e => .inl e
theorem OwnMap.effO {g : Int → Option Value} {w w' : World} {b n : Nat} {row : Option Nat} (h : OwnMap g w b n) (hE : Eff (fun k => some k = row) w w') (hne : some b ≠ row) : OwnMap g w' b n :=
 h.kept (row := row) ⟨hE.os, hE.tape, hE.output, hE.size, fun k hk hn => hE.block k hk hn⟩ hne
theorem OwnMap.setC {g : Int → Option Value} {w : World} {b n : Nat} (h : OwnMap g w b n) {g' : Nat} (hne : b ≠ g') (j : Nat) (u : Value) : OwnMap g (w.setCell ⟨g', j, none⟩ u) b n :=
 h.kept (row := some g') ⟨rfl, rfl, rfl, by simp [World.setCell], fun k _ hn => Below.heap_setCell w ⟨g', j, none⟩ u k fun e => hn (congrArg some e)⟩ fun e => hne (Option.some.inj e)
theorem OwnR.formN {w : World} {B k g c n : Nat} {e : TypeId} {L : List (List Value)} (h : OwnR w B e k (.slice (some ⟨g, 0, none⟩) n c) L) : n = L.length := by
 rcases h.form with ⟨e, -⟩ | ⟨g', c', cur, e1, -⟩
 ·cases e
 ·cases e1; rfl
theorem OwnR.frozen' {w : World} {B k g c n : Nat} {e : TypeId} {L : List (List Value)} (h : OwnR w B e k (.slice (some ⟨g, 0, none⟩) n c) L) (j : Nat) : w.frozen? ⟨g, j, none⟩ = false := by
 have := h.formN
 subst this; exact h.frozen j
/-- what one more integer in one of the lists leaves *-/
theorem cov_put {W1 V w4 : World} {M gv N cv kk x clk : Nat} {us : List Value} {S1 : List (List Nat)} {s2 : Nat → Option Nat} {v4 : Value} (hMB : M < W1.heap.size) (hclk : clk < 1000000) (hx : x < 1000) (hs : kk < S1.length) (hO : OwnL V W1.heap.size (.slice (some ⟨gv, 0, none⟩) N cv) us (natsL S1))
  (hm : OwnMap (cvG s2) V M clk) (hE : Eff (fun k => k = M ∨ W1.heap.size ≤ k) W1 V) (hO4 : OwnI w4 W1.heap.size v4 (natsO (S1.getD kk []) ++ [(x : Int)])) (hE4 : Eff (fun j => some j = (us.getD kk nilS).ownBlock) V w4)
  (hob : v4.ownBlock = (us.getD kk nilS).ownBlock ∨ ∀ g, v4.ownBlock = some g → V.heap.size ≤ g) :
  w4.cell? ⟨gv, kk, none⟩ = some (us.getD kk nilS) ∧ w4.frozen? ⟨gv, kk, none⟩ = false ∧
  ∃ w5, (Instr.mapUpdate 73 (.map (some M)) (.int .i64 (x : Int)) (.int .i64 (kk : Nat))).run Tryd.prog (w4.setCell ⟨gv, kk, none⟩ v4) = .ok () w5 ∧ CovG W1 W1.heap.size M (.slice (some ⟨gv, 0, none⟩) N cv) (S1.set kk (S1.getD kk [] ++ [x]), fun y => if y = x then some kk else s2 y) (clk + 1) (us.set kk v4) w5 := by
 have hkl : kk < (natsL S1).length := by rw [natsL_len]; exact hs
 have hku : kk < us.length := by rw [hO.len]; exact hkl
 have hou := hO.each kk hkl
 rw [natsL_get] at hou
 have hgv := hO.row.ltB (g := gv) rfl
 have hr4 : OwnR w4 W1.heap.size 26 1 (.slice (some ⟨gv, 0, none⟩) N cv) (us.map fun u => [u]) := OwnR.eff hO.row hE4 fun g hg e => own_types hO.row hou (by decide) hg e.symm
 have hr0 := hr4.cell kk 0 (u := us.getD kk nilS) (by rw [List.length_map]; exact hku) (by decide) (by
  rw [List.getD_eq_getElem?_getD, List.getElem?_map, List.getElem?_eq_getElem hku, List.getD_eq_getElem?_getD, List.getElem?_eq_getElem hku]; rfl)
 rw [Nat.mul_one, Nat.add_zero] at hr0
 have hL5 := OwnL.put hO hkl hO4 hE4 hob
 have hm4 := (hm.effO hE4 fun e => by have := (hou.ltB e.symm).1; omega).setC (show M ≠ gv by omega) kk v4
 obtain ⟨w5, hput, hM5, hgr5⟩ := hm4.put mapIntT hclk (x := (x : Int)) (by omega) (by omega) (.int .i64 (kk : Nat))
 rw [cvG_put] at hM5
 refine ⟨hr0, hr4.frozen' kk, w5, hput, ?_, hM5, ?_⟩
 ·have h := hL5.later _ (Eff.of_grown hgr5) fun k hk e => by omega
  show OwnL _ _ _ _ (natsL (S1.set kk (S1.getD kk [] ++ [x])))
  rw [natsL_set, natsO_snoc]
  exact h
 ·refine ((hE.trans (hE4.mono fun k _ e => .inr (hou.ltB e.symm).1)).trans ((Eff.setCell w4 gv kk v4).mono fun k _ e => .inr ?_)).trans (grown_map hgr5)
  have e : k = gv := e
  rw [e]; exact hgv.1
set_option maxRecDepth 100000 in
set_option maxHeartbeats 2000000 in
theorem cover_yes (n : Nat) (ps : List (Int × Int)) (pv : Value) (w : World) (hp : PairsIn w.cell? pv ps) (hv : validO ⟨n, ps⟩ = true) : Calls Tryd.prog 31 #[orderV n pv] w (ListsEQ (natsL (coverO n (beforeO ⟨n, ps⟩))) w) := by
 obtain ⟨pa, pm, rfl, -, -, -⟩ := id hp
 have hn8 : n ≤ 8 := by
  have hf : formedO ⟨(n : Int), ps⟩ = true := by unfold validO at hv; rw [Bool.and_eq_true] at hv; exact hv.1
  have := (formed_n hf).1.2
  simp only at this
  omega
 have HPO := hide (show PoO n (beforeO ⟨(n : Int), ps⟩) from before_po hv)
 have HR := hide (fun W (hb : Below w.heap.size w W) => by
  have h := read_any ⟨(n : Int), ps⟩ (.slice pa ps.length pm) W (RecIn.below hb hp)
  rw [hv, show readO ⟨(n : Int), ps⟩ = beforeO ⟨(n : Int), ps⟩ by
   have hf : formedO ⟨(n : Int), ps⟩ = true := by unfold validO at hv; rw [Bool.and_eq_true] at hv; exact hv.1
   unfold readO; rw [if_pos hf]] at h
  exact h)
 generalize beforeO ⟨(n : Int), ps⟩ = R at *
 clear hp hv
 have hmk : (Instr.makeMap 73 none).run Tryd.prog = fun w => .ok (.map (some w.heap.size)) (w.alloc (.map #[] 0)) := by
  funext w; simp [Instr.makeMap, go_sem]
 have HLI := hide (fun W => linel_any n R W hn8 HPO.out)
 have HLS := hide (line_is HPO.out)
 have HST := hide ((line_is HPO.out).start HPO.out)
 have HKS := hide (fun k => kuhn_spec (n := n) (R := R) (fun a b hr => HPO.out.dom a b hr) k)
 have HK1 : Hid (∀ a, (followO n R (n + 1) a ⟨kuhnO n R a, fun _ => false⟩).2.last = kuhnO n R (a + 1)) := hide (fun a => rfl)
 have HUN := hide (fun s => unseen_le n s)
 have HCV : Hid (coverO n R = (covO (kuhnO n R n) (lineO n R)).1) := hide rfl
 go_enter Tryd.func31, Tryd.ntmps31
 go_wp2_with fail
 generalize hX1 : World.alloc w _ = X1
 have zX1 : X1.heap.size = w.heap.size + 1 := by rw [← hX1]; simp
 have bX1 : Below w.heap.size w X1 := by rw [← hX1]; exact bal w _
 have bO : Blk X1 (w.heap.size) [.int .i64 n, .slice pa ps.length pm] 25 := by rw [← hX1]; exact Blk.newA w _ (by first | rfl | simp)
 have Xb := bX1
 have Xz := zX1
 clear hX1 zX1 bX1
 have c0 := bO.cell 0 rfl
 have c1 := bO.cell 1 rfl
 refine (HR.out _ Xb).mono ?_
 rintro e w1 ⟨rfl, hb⟩
 have hw := below2 Xb hb
 replace bO := bO.later hb
 clear c0 c1 hb Xb Xz
 go_upto_region 2 with (fail)
 generalize hY1 : World.alloc w1 _ = Y1
 have zY1 : Y1.heap.size = w1.heap.size + 1 := by rw [← hY1]; simp
 have bY1 : Below w1.heap.size w1 Y1 := by rw [← hY1]; exact bal w1 _
 have bT : Blk Y1 (w1.heap.size) (tabC R) 65 := by rw [← hY1]; exact Blk.newA w1 _ (by first | rfl | simp)
 have Yb := bY1
 have Yz := zY1
 clear hY1 zY1 bY1
 replace bO := bO.later Yb
 have hw2 := below2 hw Yb
 clear Yb Yz hw
 go_upto_region 8 with (fail)
 generalize hZ1 : World.alloc Y1 _ = Z1
 have zZ1 : Z1.heap.size = Y1.heap.size + 1 := by rw [← hZ1]; simp
 have bZ1 : Below Y1.heap.size Y1 Z1 := by rw [← hZ1]; exact bal Y1 _
 have bL_1 : Blk Z1 (Y1.heap.size) (lasC (fun _ => 0)) 53 := by rw [← hZ1]; exact Blk.newA Y1 _ (by first | rfl | simp)
 generalize hZ2 : World.alloc Z1 _ = Z2
 have zZ2 : Z2.heap.size = Y1.heap.size + 1 + 1 := by rw [← hZ2]; simp [zZ1]
 have bZ2 : Below Z1.heap.size Z1 Z2 := by rw [← hZ2]; exact bal Z1 _
 have bS_2 : Blk Z2 (Y1.heap.size + 1) [.int .i64 0] 3 := by rw [← hZ2, ← zZ1]; exact Blk.newA Z1 _ (by first | rfl | simp)
 have bL_2 := bL_1.later bZ2
 generalize hZ3 : World.alloc Z2 _ = Z3
 have zZ3 : Z3.heap.size = Y1.heap.size + 1 + 1 + 1 := by rw [← hZ3]; simp [zZ2]
 have bZ3 : Below Z2.heap.size Z2 Z3 := by rw [← hZ3]; exact bal Z2 _
 have bF : Blk Z3 (Y1.heap.size + 1 + 1) [folV w.heap.size w1.heap.size (Y1.heap.size + 1) Y1.heap.size (Y1.heap.size + 1 + 1)] 80 := by rw [← hZ3, ← zZ2]; exact Blk.newA Z2 _ (by first | rfl | simp)
 have bL := bL_2.later bZ3
 have bS := bS_2.later bZ3
 have Zb := below2 (below2 (bZ1) bZ2) bZ3
 have Zz := zZ3
 clear hZ1 zZ1 bZ1 hZ2 zZ2 bZ2 hZ3 zZ3 bZ3 bL_1 bL_2 bS_2
 have hw3 := below2 hw2 Zb
 have hG0 : FoG n R w.heap.size w1.heap.size (Y1.heap.size + 1) Y1.heap.size (Y1.heap.size + 1 + 1) (.slice pa ps.length pm) ⟨kuhnO n R 0, fun _ => false⟩ Z3 :=
  ⟨bO.later Zb, bT.later Zb, bS, bL, bF⟩
 have hwY := hw2.size
 clear Zb Zz bO bT bL bS bF hw2
 have o0 := hG0.bO.cell 0 rfl
 obtain ⟨Sn, hSn⟩ : ∃ Sn, Y1.heap.size + 1 = Sn := ⟨_, rfl⟩
 obtain ⟨Fb, hFb⟩ : ∃ Fb, Y1.heap.size + 1 + 1 = Fb := ⟨_, rfl⟩
 obtain ⟨La, hLa⟩ : ∃ La, Y1.heap.size = La := ⟨_, rfl⟩
 obtain ⟨T, hT⟩ : ∃ T, w1.heap.size = T := ⟨_, rfl⟩
 rw [hFb, hSn, hLa, hT] at hG0
 rw [hFb, hSn, hLa, hT]
 have hSnw : w.heap.size ≤ Sn := by omega
 have hLaw : w.heap.size ≤ La := by omega
 have HSB : Hid (∀ k, (k = Sn ∨ k = La) → w.heap.size ≤ k) := hide (fun k h => by rcases h with h | h <;> omega)
 clear hSn hFb hT hLa hwY
 have HG0 := hide hG0
 have HW0 := hide hw3
 clear hG0 hw3
 have HFO := hide (fun a s (W : World) ha hok hu hG => follow_any (n := n) (R := R) (fun a b hr => HPO.out.dom a b hr) hn8 w.heap.size T Sn La Fb (.slice pa ps.length pm) (n + 1) a s W ha hok hu hG)
 go_wp2_with fail
 go_loopw [26] (fun i wr => ∃ (a : Nat) (sn : Nat → Bool), a ≤ n ∧ i = .int .i64 a ∧ FoG n R w.heap.size T Sn La Fb (.slice pa ps.length pm) ⟨kuhnO n R a, sn⟩ wr ∧ Below w.heap.size w wr) (fun i _ => n - (intOf i).toNat)
 case atStart => exact ⟨0, _, by omega, rfl, HG0.out, HW0.out⟩
 case round =>
  obtain ⟨a, sn, ha, rfl, hG, hwr⟩ := hrel
  by_cases hlt : a < n
  ·have hltI : (a : Int) < n := by omega
   have HK := hide hlt
   have z0 := hG.bS.cell 0 rfl
   have zf := hG.bS.frozen 0
   have hG1 := hG.zero
   have f0 := hG1.bF.cell 0 rfl
   unfold folV at f0
   have HC := hide (HFO.out a _ _ hlt (HKS.out a).ok (by have := HUN.out ⟨kuhnO n R a, fun _ => false⟩; show unseenO n ⟨kuhnO n R a, fun _ => false⟩ < n + 1; omega) hG1)
   have HW1 := hide (hwr.setCell (p := ⟨Sn, 0, none⟩) hSnw (.int .i64 0))
   clear hG hG1 hwr
   go_wp2_with fail
   refine HC.out.mono ?_
   rintro e W2 ⟨rfl, hG2, hE2⟩
   have HG2 := hide hG2
   have HW2 := hide (HW1.out.trans (hE2.below HW1.out.size HSB.out))
   clear hG2 hE2 HC f0 z0 zf
   have HK2 := HK1.out a
   go_wp2_with fail
   go_roundw
   case rel => exact ⟨a + 1, _, by have := HK.out; omega, by go_num, by rw [← HK2]; exact HG2.out, HW2.out⟩
   case measure => have := HK.out; simp [intOf]; omega
  ·obtain rfl : a = n := by omega
   have HG := hide hG
   have HW := hide hwr
   clear hG hwr
   go_upto_region 16 with (fail)
   have hm0 := OwnMap.made wr
   have hbm := bal wr (.map #[] 0)
   generalize World.alloc wr _ = M1 at *
   have hGM := HG.out.later hbm
   have hWM := below2 HW.out hbm
   have o0 := hGM.bO.cell 0 rfl
   have t0 := hGM.bT.cell 0 rfl
   have t1 := hGM.bT.cell 1 rfl
   have t2 := hGM.bT.cell 2 rfl
   have t3 := hGM.bT.cell 3 rfl
   have t4 := hGM.bT.cell 4 rfl
   have t5 := hGM.bT.cell 5 rfl
   have t6 := hGM.bT.cell 6 rfl
   have t7 := hGM.bT.cell 7 rfl
   obtain ⟨M, hM⟩ : ∃ M, wr.heap.size = M := ⟨_, rfl⟩
   rw [hM] at hm0 ⊢
   have hMw : w.heap.size ≤ M := by have := HW.out.size; omega
   clear hM HG HW hbm
   go_wp2_with fail
   refine (HLI.out _).mono ?_
   rintro e W1 ⟨lv, rfl, hO, hb⟩
   have hLI := hO.intsF (Nat.le_refl _)
   have hG1 := hGM.later hb
   have hW1 := below2 hWM hb
   have hm1 := hm0.later hb
   have hM1 := hm0.lt
   have hll : (natsO (lineO a R)).length = a := by unfold natsO; rw [List.length_map, HLS.out.len]
   obtain ⟨la, lc, rfl⟩ := hO.form
   rw [hll]
   have hBs : w.heap.size ≤ W1.heap.size := hW1.size
   have hlow : M1.heap.size ≤ W1.heap.size := hb.size
   have HLA := hide hLI.at
   have HLO : Hid (∀ k, k < a → ∃ b : Nat, (natsO (lineO a R)).getD k 0 = (b : Int) ∧ b < a ∧ (lineO a R).take (k + 1) = (lineO a R).take k ++ [b] ∧ StartO a R ((lineO a R).take k ++ [b])) := hide (fun k hk => by
    have hk' : k < (lineO a R).length := by rw [HLS.out.len]; exact hk
    have ht := take_succ' (lineO a R) k 0 hk'
    refine ⟨(lineO a R).getD k 0, ?_, ?_, ht, ?_⟩
    ·unfold natsO
     rw [List.getD_eq_getElem?_getD, List.getElem?_map, List.getD_eq_getElem?_getD]
     cases (lineO a R)[k]? <;> rfl
    ·exact (HLS.out.mem _).1 (getD_mem (lineO a R) k hk')
    ·rw [← ht]
     have h := HST.out
     rw [← List.take_append_drop (k + 1) (lineO a R)] at h
     exact h.left)
   have HCK : Hid (∀ k, k ≤ a → CovK R (kuhnO a R a) ((lineO a R).take k) (covO (kuhnO a R a) ((lineO a R).take k)) ∧ ((lineO a R).take k).length = k) := hide (fun k hk => by
    have h := HST.out
    rw [← List.take_append_drop k (lineO a R)] at h
    exact ⟨cov_all HPO.out (HKS.out a).ok (HKS.out a).one _ _ rfl h.left, by rw [List.length_take, HLS.out.len]; omega⟩)
   have HSN : Hid (∀ l x, covO (kuhnO a R a) (l ++ [x]) = covStep (kuhnO a R a) (covO (kuhnO a R a) l) x) := hide (fun l x => cov_snoc _ l x)
   have HCF : Hid (coverO a R = (covO (kuhnO a R a) ((lineO a R).take a)).1) := hide (by rw [HCV.out, List.take_of_length_le (by rw [HLS.out.len]; exact Nat.le_refl _)])
   have HOKL := hide ((HKS.out a).ok)
   have HG1 := hide hG1
   have HW1 := hide hW1
   have HM1 := hide hm1
   have HMB := hide (Nat.lt_of_lt_of_le hM1 hlow)
   generalize kuhnO a R a = last at *
   generalize lineO a R = LO at *
   clear hLI hG1 hW1 hm1 hM1 hO hb hGM hWM hm0 t0 t1 t2 t3 t4 t5 t6 t7 o0 HLI HLS HST HKS HK1 HCV HG0 HW0 hmk
   go_wp2_with fail
   go_loopw [10, 39] (fun ov i wz => ∃ (k : Nat) (us : List Value), k ≤ a ∧ i = .int .i64 k ∧ CovG W1 W1.heap.size M ov (covO last (LO.take k)) k us wz) (fun _ i _ => a - (intOf i).toNat)
   case atStart => exact ⟨0, [], by omega, rfl, OwnL.nil _ _, by rw [show (covO last (LO.take 0)).2 = fun _ => none from rfl, cvG_none]; exact HM1.out, Eff.refl _ _⟩
   case round =>
    obtain ⟨k, us, hk, rfl, hG⟩ := hrel
    obtain ⟨oa, oc, rfl⟩ := OwnR.formE hG.own.row
    have hck := HCK.out k hk
    generalize hcs : covO last (LO.take k) = s at *
    by_cases hlk : k < a
    ·have hlkI : (k : Int) < a := by omega
     have HK := hide hlk
     obtain ⟨x, hx0, hxn, htk, -⟩ := HLO.out k hlk
     have hx8 : x < 8 := by omega
     have hx8I : (x : Int) < 8 := by omega
     obtain ⟨a', m', e', -, -, hc⟩ := HLA.out
     cases e'
     obtain ⟨lb, lo, rfl, hck0⟩ := hc k (by rw [hll]; exact hlk)
     rw [hx0] at hck0
     have hlc := hG.cell HM1.out hck0
     have hbl := hG.blk HM1.out HG1.out.bL
     have hl0 := hbl.cell x (lasC_get _ x hx8)
     have HNX := hide (show covO last (LO.take (k + 1)) = covStep last s x by rw [htk, HSN.out, hcs])
     have hm8 : s.1.length ≤ 8 := by rw [hck.1.len]; exact Nat.le_trans (List.length_filter_le _ _) (by rw [hck.2]; omega)
     have hfl : ∀ i, (s.1.getD i []).length ≤ 8 := fun i => Nat.le_trans (row_len i) (by rw [hck.1.perm.length_eq, hck.2]; omega)
     have HPL : Hid (∀ c kk, s.2 c = some kk → kk < s.1.length) := hide (fun c kk e => by
      by_cases hm : c ∈ LO.take k
      ·obtain ⟨k2, e2, h2, -⟩ := hck.1.place c hm
       rw [e] at e2; cases e2; exact h2
      ·rw [hck.1.dom c hm] at e; cases e)
     have hul : (us.map fun u => [u]).length = s.1.length := by rw [List.length_map, hG.own.len, natsL_len]
     have hrow := hG.own.row
     rw [hul] at hrow ⊢
     have HOL := hide (by have h := hG.own; rw [hul] at h; exact h)
     have HMP := hide hG.map
     have HEE := hide hG.hE
     have hsz := hG.hE.size
     clear hG hck0 hc hx0 htk hck hbl
     obtain ⟨c, hcx⟩ : ∃ c, last x = c := ⟨_, rfl⟩
     replace hl0 : wr.cell? ⟨La, x, none⟩ = some (.int .i64 (c : Nat)) := by rw [← hcx]; exact hl0
     have hc8 : c ≤ 8 := by
      by_cases h0 : last x = 0
      ·omega
      ·have := (HPO.out.dom _ _ (HOKL.out x h0).2).1; omega
     obtain ⟨s1, s2⟩ := s
     dsimp only at *
     cases hlook : (if c = 0 then none else s2 (c - 1)) with
     | none =>
      have HCS : Hid (covO last (LO.take (k + 1)) = (s1 ++ [[x]], fun y => if y = x then some s1.length else s2 y)) := hide (by rw [HNX.out]; unfold covStep; rw [hcx]; dsimp only; rw [hlook])
      obtain ⟨K, hK0, hK1, hK2, hK3, hK4⟩ : ∃ K : Int, IntKind.i64.wrap ((c : Int) - 1) = K ∧ (c : Int) - 1 = K ∧ -9223372036854775808 ≤ K ∧ K ≤ 9223372036854775807 ∧ cvG s2 K = none := by
       refine ⟨(c : Int) - 1, IntWalk.i64_in _ ⟨by omega, by omega⟩, rfl, by omega, by omega, ?_⟩
       by_cases h0 : c = 0
       ·subst h0; exact cvG_neg s2
       ·rw [if_neg h0] at hlook
        rw [show (c : Int) - 1 = ((c - 1 : Nat) : Int) by omega, cvG_at, hlook]; rfl
      have hlk2 := HMP.out.look mapIntT zeroIntW hK2 hK3
      rw [hK4] at hlk2
      have hlk2 : (Instr.lookup 73 (.map (some M)) (.int .i64 K) true).run Tryd.prog wr = .ok (.tuple #[.int .i64 0, .bool false]) wr := hlk2
      clear hK4 hlook hcx hK2 hK3
      obtain ⟨m, hm⟩ : ∃ m, s1.length = m := ⟨_, rfl⟩
      rw [hm] at hrow HOL hm8 ⊢
      have hmu : (us.map fun u => [u]).length = m := by rw [hul, hm]
      clear hul
      go_upto_region 23 with (at_builtin; refine app_recE infoSli rfl (by decide) Tryd.underlying50 rfl _ _ rfl W1.heap.size _ (us.map fun u => [u]) rfl hrow [nilS] rfl (by intro u hu; rw [List.mem_singleton.1 hu]; rfl) _ rfl rfl (by rw [hmu]; omega) (by rw [hmu]; omega) hsz ?_; intro v3 w3 hO3 hE3 hob3)
      obtain ⟨g3, c3, rfl⟩ := own_some hO3
      have HO := hide (HOL.out.push hO3 hE3)
      rw [hmu] at HO ⊢
      have HMP3 := hide (HMP.out.effO hE3 fun e => by have := (HOL.out.row.ltB e.symm).1; have := HMB.out; omega)
      have HEE3 := hide (HEE.out.trans (hE3.mono fun k _ e => .inr (HOL.out.row.ltB e.symm).1))
      have HKK : Hid (m < (s1 ++ [[]]).length) := hide (by rw [List.length_append, hm]; exact Nat.lt_succ_self _)
      have hfl2 : ((s1 ++ [[]]).getD m []).length ≤ 8 := by rw [getD_snoc _ _ _ _ (by omega), if_neg (by omega)]; simp
      rw [show natsL s1 ++ [[]] = natsL (s1 ++ [[]]) by rw [natsL_snoc]; rfl] at HO
      have HTG : Hid (covO last (LO.take (k + 1)) = ((s1 ++ [[]]).set m ((s1 ++ [[]]).getD m [] ++ [x]), fun y => if y = x then some m else s2 y)) := hide (by rw [HCS.out, getD_snoc _ _ _ _ (by omega), if_neg (by omega), ← hm]; simp)
      clear HMP HEE hO3 hE3 hob3 HOL hrow
      have HMP := HMP3
      have HEE := HEE3
      clear HMP3 HEE3
      have hkl : m < (natsL (s1 ++ [[]])).length := by rw [natsL_len]; exact HKK.out
      have hku : m < (us ++ [nilS]).length := by rw [HO.out.len]; exact hkl
      have hou := HO.out.each (m) hkl
      have hr0 := HO.out.row.cell (m) 0 (u := List.getD (us ++ [nilS]) (m) nilS) (by rw [List.length_map]; exact hku) (by decide) (by rw [List.getD_eq_getElem?_getD, List.getElem?_map, List.getElem?_eq_getElem hku, List.getD_eq_getElem?_getD, List.getElem?_eq_getElem hku]; rfl)
      rw [Nat.mul_one, Nat.add_zero] at hr0
      rw [natsL_get] at hou
      have hll2 : (natsO (List.getD (s1 ++ [[]]) (m) [])).length ≤ 8 := by unfold natsO; rw [List.length_map]; exact hfl2
      have HCP := hide (fun w4 v4 hO4 hE4 hob => cov_put (clk := k) (x := x) (v4 := v4) (w4 := w4) HMB.out (by omega) (by omega) HKK.out HO.out HMP.out HEE.out hO4 hE4 hob)
      have hsz2 := HEE.out.size
      obtain ⟨u, hu⟩ : ∃ u, List.getD (us ++ [nilS]) (m) nilS = u := ⟨_, rfl⟩
      rw [hu] at hr0 hou HCP
      generalize natsO (List.getD (s1 ++ [[]]) (m) []) = l at *
      obtain ⟨ua, uc, rfl⟩ := hou.form
      clear hu hkl hku
      go_wp2_with (at_builtin; refine app_intE rfl _ _ rfl W1.heap.size _ l rfl hou (x : Int) rfl (by omega) hsz2 ?_; intro v4 w4 hO4 hE4 hob4; obtain ⟨g4, c4, rfl⟩ := OwnI.succ hO4; obtain ⟨z0, zf, w5, hput, hG5⟩ := HCP.out w4 _ hO4 hE4 hob4; have HG5 := hide hG5; clear hG5 hO4 hE4 hob4)
      go_roundw
      case rel => exact ⟨k + 1, _, by have := HK.out; omega, by go_num, by rw [HTG.out]; exact HG5.out⟩
      case measure => have := HK.out; simp [intOf]; omega
     | some kk =>
      have HCS : Hid (covO last (LO.take (k + 1)) = (s1.set kk (s1.getD kk [] ++ [x]), fun y => if y = x then some kk else s2 y)) := hide (by rw [HNX.out]; unfold covStep; rw [hcx]; dsimp only; rw [hlook])
      obtain ⟨c', rfl⟩ : ∃ c', c = c' + 1 := by
       cases c with
       | zero => rw [if_pos rfl] at hlook; cases hlook
       | succ c' => exact ⟨c', rfl⟩
      rw [if_neg (by omega), Nat.add_sub_cancel] at hlook
      have HKK := hide (HPL.out c' kk hlook)
      have hK0 : IntKind.i64.wrap ((c' : Int) + 1 - 1) = c' := by rw [show (c' : Int) + 1 - 1 = c' by omega]; exact IntWalk.i64_in _ ⟨by omega, by omega⟩
      have hK1 : IntKind.i64.wrap (c' : Int) = c' := IntWalk.i64_in _ ⟨by omega, by omega⟩
      have hlk2 := HMP.out.look mapIntT zeroIntW (x := (c' : Int)) (by omega) (by omega)
      rw [cvG_at, hlook] at hlk2
      have hlk2 : (Instr.lookup 73 (.map (some M)) (.int .i64 (c' : Int)) true).run Tryd.prog wr = .ok (.tuple #[.int .i64 (kk : Nat), .bool true]) wr := hlk2
      clear hlook hcx
      go_upto_region 23 with (fail)
      have hfl2 := hfl kk
      have hkl0 := HKK.out
      obtain ⟨gv, rfl⟩ : ∃ gv, oa = some ⟨gv, 0, none⟩ := by
       rcases HOL.out.row.form with ⟨-, e⟩ | ⟨g, c0, cur, e, -⟩
       ·rw [e] at hul; simp only [List.length_nil] at hul; omega
       ·exact ⟨g, (Value.slice.inj e).1⟩
      have HO := HOL
      have HTG := HCS
      clear HOL hrow hkl0 HCS
      have hkl : kk < (natsL (s1)).length := by rw [natsL_len]; exact HKK.out
      have hku : kk < (us).length := by rw [HO.out.len]; exact hkl
      have hou := HO.out.each (kk) hkl
      have hr0 := HO.out.row.cell (kk) 0 (u := List.getD (us) (kk) nilS) (by rw [List.length_map]; exact hku) (by decide) (by rw [List.getD_eq_getElem?_getD, List.getElem?_map, List.getElem?_eq_getElem hku, List.getD_eq_getElem?_getD, List.getElem?_eq_getElem hku]; rfl)
      rw [Nat.mul_one, Nat.add_zero] at hr0
      rw [natsL_get] at hou
      have hll2 : (natsO (List.getD (s1) (kk) [])).length ≤ 8 := by unfold natsO; rw [List.length_map]; exact hfl2
      have HCP := hide (fun w4 v4 hO4 hE4 hob => cov_put (clk := k) (x := x) (v4 := v4) (w4 := w4) HMB.out (by omega) (by omega) HKK.out HO.out HMP.out HEE.out hO4 hE4 hob)
      have hsz2 := HEE.out.size
      obtain ⟨u, hu⟩ : ∃ u, List.getD (us) (kk) nilS = u := ⟨_, rfl⟩
      rw [hu] at hr0 hou HCP
      generalize natsO (List.getD (s1) (kk) []) = l at *
      obtain ⟨ua, uc, rfl⟩ := hou.form
      clear hu hkl hku
      go_wp2_with (at_builtin; refine app_intE rfl _ _ rfl W1.heap.size _ l rfl hou (x : Int) rfl (by omega) hsz2 ?_; intro v4 w4 hO4 hE4 hob4; obtain ⟨g4, c4, rfl⟩ := OwnI.succ hO4; obtain ⟨z0, zf, w5, hput, hG5⟩ := HCP.out w4 _ hO4 hE4 hob4; have HG5 := hide hG5; clear hG5 hO4 hE4 hob4)
      go_roundw
      case rel => exact ⟨k + 1, _, by have := HK.out; omega, by go_num, by rw [HTG.out]; exact HG5.out⟩
      case measure => have := HK.out; simp [intOf]; omega
    ·obtain rfl : k = a := by omega
     have HF := hide (hG.own.inF hBs)
     have HB : Hid (Below w.heap.size w wr) := hide (HW1.out.trans (hG.hE.below hBs (fun j e => by rcases e with e | e <;> omega)))
     have HR1 : Hid (natsL (coverO k R) = natsL s.1) := hide (by rw [HCF.out, hcs])
     generalize (us.map fun u => [u]).length = q at *
     clear hG hck
     go_wp2_with fail
     go_ret2
     exact ⟨_, rfl, by rw [HR1.out]; exact HF.out, HB.out⟩
end Go.Proofs.YtnidcoinfmcffaaDoor
