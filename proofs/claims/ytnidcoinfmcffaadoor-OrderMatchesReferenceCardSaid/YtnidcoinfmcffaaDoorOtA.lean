/- The walk of Cycle (chapter 15). Conditions: how the order lies in memory. -/
import Derived.Test.YtnidcoinfmcffaaDoorOsZ
namespace Go.Proofs.YtnidcoinfmcffaaDoor
open Go.RowKit
attribute [local go_sem] Oper.semAt_some
abbrev Tab8 (w X : World) (O : Nat) (R : RelO) (W : World) : Prop := BoxG w X O 53 (tabC R) (tabC R) true W
theorem Tab8.put {w X W : World} {O : Nat} {R : RelO} (h : Tab8 w X O R W) (hO : w.heap.size ≤ O) {y : Nat} (hy : y < 8) (p : Nat → Bool) : Tab8 w X O (rowO R y p) (W.setCell ⟨O, y, none⟩ (.int .i64 ((bitsO p : Nat) : Int))) :=
 ⟨h.hb.setCell (p := ⟨O, y, none⟩) hO _, h.hE.trans (Eff.setCell _ _ _ _), by
  have := h.done.set y (.int .i64 ((bitsO p : Nat) : Int))
  rw [tabC_set R p y hy] at this
  exact this⟩
theorem Tab8.eq {w X W : World} {O : Nat} {R S : RelO} (h : Tab8 w X O R W) (e : tabC R = tabC S) : Tab8 w X O S W :=
 ⟨h.hb, h.hE, by have := h.done; rw [e] at this; exact this⟩
def swP (p : Int × Int) : Int × Int := (p.2, p.1)
theorem rel_sw (ps : List (Int × Int)) : relP (ps.map swP) = fun a b => relP ps b a := by
 funext a b
 unfold relP
 rw [List.any_map]
 congr 1
 funext p
 obtain ⟨u, v⟩ := p
 simp only [Function.comp, swP, Prod.mk.injEq]
 exact decide_eq_decide.2 And.comm
theorem tab_las (A : RelO) : tabC (fun a b => A b a) = lasC fun a => bitsO (A a) := rfl
/-- the cycle that is found -/
def cycF (o : OrderD) : Option (List Nat) := if formedO o = true then cycO o.n.toNat (relP o.pairs) else none
def CycQ (r : Option (List Nat)) (w : World) (e : Ending) (w' : World) : Prop := ∃ v, e = .returned (.tuple #[v, .bool r.isSome]) ∧ IntsIn (frm w.heap.size w') v (natsO (r.getD [])) ∧ Below w.heap.size w w'
def lenAt (p : Value) (w : World) : Nat := match p with
 | .pointer (some a) => match w.cell? a with
  | some (.int _ x) => x.toNat
  | _ => 0
 | _ => 0
theorem len_at {a : Addr} {w : World} {x : Nat} (h : w.cell? a = some (.int .i64 (x : Nat))) : lenAt (.pointer (some a)) w = x := by
 unfold lenAt
 simp only [h, Int.toNat_natCast]
set_option maxRecDepth 100000 in
set_option maxHeartbeats 2000000 in
theorem cycle_no (o : OrderD) (pv : Value) (w : World) (hp : PairsIn w.cell? pv o.pairs) (hF : formedO o = false) : Calls Tryd.prog 32 #[orderV o.n pv] w (CycQ (cycF o) w) := by
 have HR : Hid (cycF o = none) := hide (by unfold cycF; rw [hF]; rfl)
 obtain ⟨on, ps⟩ := o
 obtain ⟨pa, pm, rfl, -, -, -⟩ := id hp
 have HC := hide (fun W (hb : Below w.heap.size w W) => by
  have h := formed_any ⟨on, ps⟩ (.slice pa ps.length pm) W (RecIn.below hb hp)
  rw [hF] at h
  exact h)
 clear hp hF
 go_enter Tryd.func32, Tryd.ntmps32
 go_wp2_with fail
 generalize hX1 : World.alloc w _ = X1
 have zX1 : X1.heap.size = w.heap.size + 1 := by rw [← hX1]; simp
 have bX1 : Below w.heap.size w X1 := by rw [← hX1]; exact bal w _
 have bO : Blk X1 (w.heap.size) [.int .i64 on, .slice pa ps.length pm] 25 := by rw [← hX1]; exact Blk.newA w _ (by first | rfl | simp)
 have Xb := bX1
 have Xz := zX1
 clear hX1 zX1 bX1
 have c0 := bO.cell 0 rfl
 have c1 := bO.cell 1 rfl
 refine (HC.out _ Xb).mono ?_
 rintro e w1 ⟨rfl, hb⟩
 have hw := below2 Xb hb
 clear c0 c1 bO hb Xb Xz
 go_wp2_with fail
 go_ret2
 exact ⟨_, by rw [HR.out]; rfl, by rw [HR.out]; exact IntsIn.nil _, hw⟩
set_option maxRecDepth 100000 in
set_option maxHeartbeats 2000000 in
theorem cycle_yes (n : Nat) (ps : List (Int × Int)) (pv : Value) (w : World) (hp : PairsIn w.cell? pv ps) (hF : formedO ⟨n, ps⟩ = true) : Calls Tryd.prog 32 #[orderV n pv] w (CycQ (cycO n (relP ps)) w) := by
 obtain ⟨pa, pm, rfl, hp1, hp2, -⟩ := id hp
 have hpl : (ps.length : Int) ≤ 9223372036854775807 := by omega
 have HPI := hide hp
 have HC := hide (fun W (hb : Below w.heap.size w W) => by
  have h := formed_any ⟨n, ps⟩ (.slice pa ps.length pm) W (RecIn.below hb hp)
  rw [hF] at h
  exact h)
 obtain ⟨⟨-, hn8⟩, hp28, hpk⟩ := formed_n hF
 simp only at hn8 hp28 hpk
 have HPK := hide hpk
 have HSW := hide (rel_sw ps)
 clear hp hp1 hp2 hpk hF
 go_enter Tryd.func32, Tryd.ntmps32
 go_wp2_with fail
 generalize hX1 : World.alloc w _ = X1
 have zX1 : X1.heap.size = w.heap.size + 1 := by rw [← hX1]; simp
 have bX1 : Below w.heap.size w X1 := by rw [← hX1]; exact bal w _
 have bO : Blk X1 (w.heap.size) [.int .i64 (n : Int), .slice pa ps.length pm] 25 := by rw [← hX1]; exact Blk.newA w _ (by first | rfl | simp)
 have Xb := bX1
 have Xz := zX1
 clear hX1 zX1 bX1
 have c0 := bO.cell 0 rfl
 have c1 := bO.cell 1 rfl
 refine (HC.out _ Xb).mono ?_
 rintro e w1 ⟨rfl, hb⟩
 have hw := below2 Xb hb
 replace bO := bO.later hb
 clear c0 c1 hb Xb Xz
 go_upto_region 4 with (fail)
 generalize hY1 : World.alloc w1 _ = Y1
 have zY1 : Y1.heap.size = w1.heap.size + 1 := by rw [← hY1]; simp
 have bY1 : Below w1.heap.size w1 Y1 := by rw [← hY1]; exact bal w1 _
 have bA : Blk Y1 (w1.heap.size) (tabC zeroO) 53 := by rw [← hY1]; exact Blk.newA w1 _ (by first | rfl | simp)
 have Yb := bY1
 have Yz := zY1
 clear hY1 zY1 bY1
 replace bO := bO.later Yb
 have hw2 := below2 hw Yb
 have hws := hw.size
 have hG0 : Tab8 w Y1 w1.heap.size (relP ((ps.map swP).take 0)) Y1 := ⟨hw2, Eff.of_below (Below.refl _ _) _, bA⟩
 have hne : w.heap.size ≠ w1.heap.size := blk_ne bO bA (by decide)
 obtain ⟨Af, hAf⟩ : ∃ Af, w1.heap.size = Af := ⟨_, rfl⟩
 rw [hAf] at hG0 hne hws
 rw [hAf]
 have c0 := bO.cell 0 rfl
 have c1 := bO.cell 1 rfl
 have HBO := hide bO
 clear Yb Yz hw bA hw2 hAf bO
 have hml : (ps.map swP).length = ps.length := List.length_map _
 go_wp2_with fail
 go_loopw [17] (fun i wr => ∃ k : Nat, k ≤ ps.length ∧ i = .int .i64 k ∧ Tab8 w Y1 Af (relP ((ps.map swP).take k)) wr) (fun i _ => ps.length - (intOf i).toNat)
 case atStart => exact ⟨0, by omega, rfl, hG0⟩
 case round =>
  obtain ⟨k, hk, rfl, hG⟩ := hrel
  by_cases hlt : k < ps.length
  ·have hltI : (k : Int) < ps.length := by omega
   have HK := hide hlt
   obtain ⟨a', n', e', -, -, hc⟩ := HPI.out.below hG.hb
   cases e'
   obtain ⟨b, o', rfl, hck⟩ := hc k hlt
   have hpk := HPK.out _ (getD_mem ps k (d := (0, 0)) hlt)
   obtain ⟨p, hpe⟩ : ∃ p, ps.getD k (0, 0) = p := ⟨_, rfl⟩
   rw [hpe] at hck hpk
   obtain ⟨p0, p1⟩ := p
   obtain ⟨g0, g1, g2, g3, -⟩ := hpk
   obtain ⟨x, rfl⟩ : ∃ x : Nat, p0 = x := ⟨p0.toNat, by omega⟩
   obtain ⟨y, rfl⟩ : ∃ y : Nat, p1 = y := ⟨p1.toNat, by omega⟩
   have hpe2 : (ps.map swP).getD k (0, 0) = ((y : Int), (x : Int)) := by
    rw [List.getD_eq_getElem?_getD, List.getElem?_map, List.getElem?_eq_getElem hlt]
    rw [List.getD_eq_getElem?_getD, List.getElem?_eq_getElem hlt] at hpe
    exact congrArg swP hpe
   have HPE := hide hpe2
   clear hpe hpe2
   have d0 := hck 0 _ rfl
   rw [Nat.add_zero] at d0
   have d1 := hck 1 _ rfl
   go_wp2_with fail
   generalize hV1 : World.alloc wr _ = V1
   have zV1 : V1.heap.size = wr.heap.size + 1 := by rw [← hV1]; simp
   have bV1 : Below wr.heap.size wr V1 := by rw [← hV1]; exact bal wr _
   have bP : Blk V1 (wr.heap.size) [.int .i64 x, .int .i64 y] 46 := by rw [← hV1]; exact Blk.newA wr _ (by first | rfl | simp)
   have Vb := bV1
   have Vz := zV1
   clear hV1 zV1 bV1
   have bTV := hG.done.later Vb
   have hx8 : x < 8 := by omega
   have hy8 : y < 8 := by omega
   have hx8I : (x : Int) < 8 := by omega
   have hy8I : (y : Int) < 8 := by omega
   have t0 := bTV.cell x (tabC_get _ x hx8)
   have tf := bTV.frozen x
   have q0 := bP.cell 0 rfl
   have q1 := bP.cell 1 rfl
   clear hc hck d0 d1
   have hS8 := set_lt (relP ((ps.map swP).take k)) x
   have HNX := hide (rel_next (l := ps.map swP) k (by rw [hml]; exact hlt) hy8 hx8 HPE.out)
   generalize hRK : relP ((ps.map swP).take k) = RK at *
   have hRKc := hRK
   obtain ⟨S, hS⟩ : ∃ S : Nat, bitsO (fun a => RK a x) = S := ⟨_, rfl⟩
   rw [show setI RK x = (S : Int) by show ((bitsO _ : Nat) : Int) = _; rw [hS]] at t0
   rw [hS] at hS8
   have hor := or_pow8 hS8 hy8
   have HS := hide hS
   clear hS hRK hRKc
   refine wp_region_still_tail 9 (by kernel_rfl) (by kernel_rfl) ?_
   simp only [List.take_succ_cons, List.take_zero, List.drop_succ_cons, List.drop_zero]
   repeat (with_reducible refine wpStill_step (fun K hK => ?_) ; go_simp ; with_reducible refine hK _ ?_ ; clear hK K)
   refine wpStill_nil ?_
   change wpList _ _ _ _ _ V1.drew
   have hbd : Below V1.heap.size V1 V1.drew := (Below.refl _ _).drew
   generalize V1.drew = V2 at hbd ⊢
   have hG2 := hG.later (below2 Vb hbd)
   have z0 := hG2.done.cell x (tabC_get _ x hx8)
   have zf := hG2.done.frozen x
   have HG3 : Hid (Tab8 w Y1 Af (relP ((ps.map swP).take (k + 1))) (V2.setCell ⟨Af, x, none⟩ (.int .i64 ((S ||| 2 ^ y : Nat) : Int)))) := hide (by
    have h := (Tab8.put hG2 (by omega) hx8 fun a => RK a x || decide (a = y)).eq HNX.out
    rw [← bits_one _ hy8, HS.out] at h
    exact h)
   clear hG2 hbd bTV t0 tf q0 q1 hG bP Vb
   go_wp2_with fail
   go_roundw
   case rel => exact ⟨k + 1, by have := HK.out; omega, by go_num, HG3.out⟩
   case measure => have := HK.out; simp [intOf]; omega
  ·obtain rfl : k = ps.length := by omega
   have hbA : Blk wr Af (lasC fun a => bitsO (relP ps a)) 53 := by
    have h := hG.done
    rw [List.take_of_length_le (by rw [hml]; exact Nat.le_refl _), HSW.out, tab_las] at h
    exact h
   have hbO := hG.blk HBO.out hne
   have hwr := hG.hb
   generalize relP ps = A at *
   have HCF : Hid (cycO n A = firstO (fun i => firstO (fun x => extC n A (i + 2) (i + 1) [x]) n) (n - 1)) := hide rfl
   have HEX := hide (fun L Ln Fd Fb B pv (h1 : L ≤ 8) (h2 : Ln < B) (h3 : Fd < B) => extend_any (n := n) (A := A) (by omega) L Ln Fd Af w.heap.size Fb B pv h1 h2 h3)
   have HES := hide (fun L f x c (h : extC n A L f [x] = some c) => (ext_some f [x] c (by simp) (by simp) (fun i hi => by simp at hi) h).1.len)
   generalize hCY : cycO n A = CY at *
   clear hCY hG hG0 hk hlt HSW HPK HPI HC HBO c0 c1 hml
   go_upto_region 10 with (fail)
   generalize hZ1 : World.alloc wr _ = Z1
   have zZ1 : Z1.heap.size = wr.heap.size + 1 := by rw [← hZ1]; simp
   have bZ1 : Below wr.heap.size wr Z1 := by rw [← hZ1]; exact bal wr _
   have bN : Blk Z1 (wr.heap.size) [.int .i64 2] 3 := by rw [← hZ1]; exact Blk.newA wr _ (by first | rfl | simp)
   have Zb := bZ1
   have Zz := zZ1
   clear hZ1 zZ1 bZ1
   have bO1 := hbO.later Zb
   have bA1 := hbA.later Zb
   have hw1 := below2 hwr Zb
   obtain ⟨Ln0, hLn⟩ : ∃ Ln, wr.heap.size = Ln := ⟨_, rfl⟩
   rw [hLn] at bN ⊢
   clear hLn Zz Zb hbO hbA hwr
   have HN0 : Hid (∀ i, i < 0 → firstO (fun x => extC n A (i + 2) (i + 1) [x]) n = none) := hide (fun i h => by omega)
   have hFi : w.heap.size < Z1.heap.size := bO1.lt
   go_loopw [7] (fun p wl => ∃ (j Ln : Nat), j ≤ n ∧ (j = 0 ∨ j + 1 ≤ n) ∧ p = .pointer (some ⟨Ln, 0, none⟩) ∧ Hid (∀ i, i < j → firstO (fun x => extC n A (i + 2) (i + 1) [x]) n = none) ∧ Blk wl Ln [.int .i64 (j + 2 : Nat)] 3 ∧ Blk wl w.heap.size [.int .i64 n, .slice pa ps.length pm] 25 ∧ Blk wl Af (lasC fun a => bitsO (A a)) 53 ∧ Below w.heap.size w wl) (fun p wl => n + 3 - lenAt p wl)
   case atStart => exact ⟨0, Ln0, by omega, .inl rfl, rfl, HN0, bN, bO1, bA1, hw1⟩
   case round =>
    clear bN bO1 bA1 hw1 hFi
    obtain ⟨j, Ln, hj, hjn, rfl, HN, bN, bO, bA, hw⟩ := hrel
    have n0 := bN.cell 0 rfl
    have o0 := bO.cell 0 rfl
    have HLA := hide (len_at n0)
    by_cases hlt : j + 2 ≤ n
    ·have hltI : ((j : Int) + 2) ≤ n := by omega
     go_upto_region 15 with (fail)
     generalize hV1 : World.alloc wr _ = V1
     have zV1 : V1.heap.size = wr.heap.size + 1 := by rw [← hV1]; simp
     have bV1 : Below wr.heap.size wr V1 := by rw [← hV1]; exact bal wr _
     have bF_1 : Blk V1 (wr.heap.size) [extV Ln (wr.heap.size + 1) Af w.heap.size wr.heap.size] 82 := by rw [← hV1]; exact Blk.newA wr _ (by first | rfl | simp)
     generalize hV2 : World.alloc V1 _ = V2
     have zV2 : V2.heap.size = wr.heap.size + 1 + 1 := by rw [← hV2]; simp [zV1]
     have bV2 : Below V1.heap.size V1 V2 := by rw [← hV2]; exact bal V1 _
     have bD : Blk V2 (wr.heap.size + 1) [.slice none 0 0] 26 := by rw [← hV2, ← zV1]; exact Blk.newA V1 _ (by first | rfl | simp)
     have bF := bF_1.later bV2
     have Vb := below2 (bV1) bV2
     have Vz := zV2
     clear hV1 zV1 bV1 hV2 zV2 bV2 bF_1
     have hG0 : ExG n A (j + 2) Ln (wr.heap.size + 1) Af w.heap.size wr.heap.size (.slice pa ps.length pm) nilS V2 := ⟨bO.later Vb, bA.later Vb, bN.later Vb, bD, bF⟩
     have hwV := below2 hw Vb
     have hLnV : Ln < V2.heap.size := by have := bN.lt; omega
     have hFdV : wr.heap.size + 1 < V2.heap.size := by omega
     have hwB : w.heap.size ≤ V2.heap.size := hwV.size
     obtain ⟨Fd, hFd⟩ : ∃ Fd, wr.heap.size + 1 = Fd := ⟨_, rfl⟩
     rw [hFd] at hG0 hFdV ⊢
     obtain ⟨Fb, hFb⟩ : ∃ Fb, wr.heap.size = Fb := ⟨_, rfl⟩
     rw [hFb] at hG0 ⊢
     obtain ⟨B, hB⟩ : ∃ B, V2.heap.size = B := ⟨_, rfl⟩
     rw [hB] at hLnV hFdV hwB
     have hBB : B ≤ V2.heap.size := by omega
     have HG0 := hide hG0
     have HWV := hide hwV
     have HWE := hide (show w.heap.size ≤ Fd by have := hw.size; omega)
     have HX := hide (HEX.out (j + 2) Ln Fd Fb B (.slice pa ps.length pm) (by omega) hLnV hFdV (j + 1))
     clear Vb Vz bF bD bO bA bN hw hFd hFb hG0 hwV n0 o0 hB
     have o0 := HG0.out.bO.cell 0 rfl
     go_wp2_with fail
     go_loopw [40] (fun i wz => ∃ (x : Nat) (fv : Value), x ≤ n ∧ i = .int .i64 x ∧ Hid (∀ y, y < x → extC n A (j + 2) (j + 1) [y] = none) ∧ ExG n A (j + 2) Ln Fd Af w.heap.size Fb (.slice pa ps.length pm) fv wz ∧ Below w.heap.size w wz ∧ B ≤ wz.heap.size) (fun i _ => n - (intOf i).toNat)
     case atStart => exact ⟨0, _, by omega, rfl, hide (fun y h => by omega), HG0.out, HWV.out, hBB⟩
     case round =>
      clear o0
      obtain ⟨x, fv, hx, rfl, HNX, hG, hw, hBz⟩ := hrel
      by_cases hlx : x < n
      ·have hlxI : (x : Int) < n := by omega
       have HK := hide hlx
       have f0 := hG.bF.cell 0 rfl
       unfold extV at f0
       have f1 := fun o => keep (bal wr o) f0
       go_wp2_with fail
       generalize hW1 : World.alloc wr _ = W1
       have hb1 : Below wr.heap.size wr W1 := by rw [← hW1]; exact bal wr _
       have hO1 : OwnI W1 B (.slice (some ⟨wr.heap.size, 0, none⟩) 1 1) [(x : Int)] := own_weak (by rw [← hW1]; exact World.ownsRow_lit wr #[.int .i64 (x : Int)] 1 (Nat.le_refl _) (by unfold maxLen; omega) rfl) hBz
       have hG1 := hG.later hb1
       have HW1 := hide (below2 hw hb1)
       have HBz := hide (Nat.le_trans hBz hb1.size)
       have HC := hide (HX.out [x] wr.heap.size 1 fv W1 (by simp) (by simp; omega) (fun y hy => by rw [List.mem_singleton.1 hy]; exact HK.out) HBz.out hO1 hG1)
       have HP := hide (show w.heap.size ≤ wr.heap.size from hw.size)
       obtain ⟨P, hP⟩ : ∃ P, wr.heap.size = P := ⟨_, rfl⟩
       rw [hP] at HC HP ⊢
       clear hG hw hBz hb1 hO1 hG1 hW1 f0 f1 hP
       refine HC.out.mono ?_
       rintro e W2 ⟨fv2, rfl, hG2, -, hE2, hd2⟩
       have HG2 := hide hG2
       have HW2 := hide (HW1.out.trans (hE2.below HW1.out.size (fun k e => by rcases e with e | e; (rw [e]; exact HP.out); (rw [e]; exact HWE.out))))
       have HBz2 := hide (Nat.le_trans HBz.out hE2.size)
       have HD2 := hide hd2
       clear hG2 hE2 hd2 HC
       cases hres : extC n A (j + 2) (j + 1) [x] with
       | none =>
        have HNX1 : Hid (∀ y, y < x + 1 → extC n A (j + 2) (j + 1) [y] = none) := hide (fun y hy => by
         rcases Nat.lt_or_ge y x with h1 | h1
         ·exact HNX.out y h1
         ·obtain rfl : y = x := by omega
          exact hres)
        clear hres
        go_wp2_with fail
        go_roundw
        case rel => exact ⟨x + 1, fv2, by have := HK.out; omega, by go_num, HNX1, HG2.out, HW2.out, HBz2.out⟩
        case measure => have := HK.out; simp [intOf]; omega
       | some c =>
        have HF : Hid (CY = some c) := hide (by
         rw [HCF.out]
         refine first_hit (x := j) (first_none.2 fun i hi => HN.out i hi) ?_ (by omega)
         exact first_hit (x := x) (first_none.2 fun y hy => HNX.out y hy) hres HK.out)
        have hci := HD2.out c hres
        have hcl := HES.out _ _ _ _ hres
        have HCL := hide (clone_ints _ _ _ hci.at (by unfold natsO; rw [List.length_map]; omega))
        have d0 := HG2.out.bD.cell 0 rfl
        clear hres hci hcl
        go_wp2_with fail
        refine HCL.out.mono ?_
        rintro e w4 ⟨v4, rfl, hO4, hb4⟩
        have HO4 := hide (hO4.intsF HW2.out.size)
        have HW4 := hide (below2 HW2.out hb4)
        clear hO4 hb4 HCL
        go_wp2_with fail
        go_ret2
        exact ⟨_, by rw [HF.out]; rfl, by rw [HF.out]; exact HO4.out, HW4.out⟩
      ·obtain rfl : x = n := by omega
       have HNJ : Hid (∀ i, i < j + 1 → firstO (fun x_1 => extC x A (i + 2) (i + 1) [x_1]) x = none) := hide (fun i hi => by
        rcases Nat.lt_or_ge i j with h1 | h1
        ·exact HN.out i h1
        ·obtain rfl : i = j := by omega
         exact first_none.2 HNX.out)
       have n0 := hG.bN.cell 0 rfl
       go_upto_region 11 with (fail)
       generalize hU1 : World.alloc wr _ = U1
       have zU1 : U1.heap.size = wr.heap.size + 1 := by rw [← hU1]; simp
       have bU1 : Below wr.heap.size wr U1 := by rw [← hU1]; exact bal wr _
       have bM : Blk U1 (wr.heap.size) [.int .i64 ((j : Int) + 2)] 3 := by rw [← hU1]; exact Blk.newA wr _ (by first | rfl | simp)
       have Ub := bU1
       have Uz := zU1
       clear hU1 zU1 bU1
       have m0 := bM.cell 0 rfl
       have mf := bM.frozen 0
       have hO2 := hG.bO.later Ub
       have hA2 := hG.bA.later Ub
       have HW2 := hide (below2 hw Ub)
       have HSZ := hide (show w.heap.size ≤ wr.heap.size from hw.size)
       have hneO : w.heap.size ≠ wr.heap.size := by have := hG.bO.lt; omega
       have hneA : Af ≠ wr.heap.size := by have := hG.bA.lt; omega
       obtain ⟨P, hP⟩ : ∃ P, wr.heap.size = P := ⟨_, rfl⟩
       rw [hP] at bM m0 mf HSZ hneO hneA ⊢
       have e3 : (j : Int) + 2 + 1 = ((j + 1 + 2 : Nat) : Int) := by omega
       have hM3 := bM.set 0 (.int .i64 ((j : Int) + 2 + 1))
       have HM3 := hide hM3
       have HO3 := hide (hO2.other hneO 0 (.int .i64 ((j : Int) + 2 + 1)))
       have HA3 := hide (hA2.other hneA 0 (.int .i64 ((j : Int) + 2 + 1)))
       have HW3 := hide (HW2.out.setCell (p := ⟨P, 0, none⟩) HSZ.out (.int .i64 ((j : Int) + 2 + 1)))
       have HE3 := hide e3
       clear hG hw hBz Ub Uz hP bM hO2 hA2 hM3 e3 HW2
       go_wp2_with fail
       go_roundw
       case rel => exact ⟨j + 1, P, by omega, .inr (by omega), by first | trivial | rfl, HNJ, by rw [← HE3.out]; exact HM3.out, HO3.out, HA3.out, HW3.out⟩
       case measure =>
        have h1 := HLA.out
        have h2 := len_at (x := j + 1 + 2) (by rw [← HE3.out]; exact HM3.out.cell 0 rfl)
        rw [h1, h2]
        omega
    ·have HF : Hid (CY = none) := hide (by rw [HCF.out, first_none]; exact fun i hi => HN.out i (by omega))
     have HW := hide hw
     clear bN bO bA hw
     go_wp2_with fail
     go_ret2
     exact ⟨_, by rw [HF.out]; rfl, by rw [HF.out]; exact IntsIn.nil _, HW.out⟩
theorem cycle_any (o : OrderD) (pv : Value) (w : World) (hp : PairsIn w.cell? pv o.pairs) : Calls Tryd.prog 32 #[orderV o.n pv] w (CycQ (cycF o) w) := by
 cases hF : formedO o with
 | false => exact cycle_no o pv w hp hF
 | true =>
  obtain ⟨on, ps⟩ := o
  have h0 := (formed_n hF).1
  simp only at h0
  obtain ⟨n, rfl⟩ : ∃ n : Nat, on = n := ⟨on.toNat, by omega⟩
  have e : cycF ⟨n, ps⟩ = cycO n (relP ps) := by unfold cycF; rw [if_pos hF]; rfl
  rw [e]
  exact cycle_yes n ps pv w hp hF
end Go.Proofs.YtnidcoinfmcffaaDoor
