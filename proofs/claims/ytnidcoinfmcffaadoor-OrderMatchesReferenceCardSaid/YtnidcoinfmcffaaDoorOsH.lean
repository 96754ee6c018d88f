/- The walk of Levels (chapter 15). Conditions: how the order lies in memory. -/
import Derived.Test.YtnidcoinfmcffaaDoorOsG
import Derived.Test.YtnidcoinfmcffaaDoorOpA
namespace Go.Proofs.YtnidcoinfmcffaaDoor
open Go.RowKit
theorem levels_no (o : OrderD) (pv : Value) (w : World) (hp : PairsIn w.cell? pv o.pairs) (hv : validO o = false) : Calls Tryd.prog 28 #[orderV o.n pv] w (Ret (.tuple #[.slice none 0 0, .int .i64 150]) w) := by
 obtain ⟨on, ps⟩ := o
 obtain ⟨pa, pm, rfl, -, -, -⟩ := id hp
 have HR := hide (fun W (hb : Below w.heap.size w W) => by
  have h := read_any ⟨on, ps⟩ (.slice pa ps.length pm) W (RecIn.below hb hp)
  rw [hv] at h
  exact h)
 generalize readO ⟨on, ps⟩ = R at *
 clear hp hv
 go_enter Tryd.func28, Tryd.ntmps28
 go_wp2_with fail
 generalize hX1 : World.alloc w _ = X1
 have zX1 : X1.heap.size = w.heap.size + 1 := by rw [← hX1]; simp
 have bX1 : Below w.heap.size w X1 := by rw [← hX1]; exact bal w _
 have bO : Blk X1 (w.heap.size) [.int .i64 on, .slice pa ps.length pm] 25 := by rw [← hX1]; exact Blk.newA w _ (by first | rfl | simp)
 have Xb := bX1
 have Xz := zX1
 clear hX1 zX1 bX1
 have c0 := bO.cell 0 rfl
 have c1 := bO.cell 1 rfl
 refine (HR.out _ Xb).mono ?_
 rintro e w1 ⟨rfl, hb⟩
 have hw := below2 Xb hb
 clear c0 c1 bO hb Xb Xz
 go_wp2_with fail
 go_ret2
 exact ⟨rfl, below2 hw (bal _ _)⟩
theorem StartO.left {n : Nat} {R : RelO} {l m : List Nat} (h : StartO n R (l ++ m)) : StartO n R l := by
 have hp := List.pairwise_append.1 h.asc
 refine ⟨(List.nodup_append.1 h.nod).1, fun y hy => h.lt y (by simp [hy]), hp.1, fun y hy a ha => ?_⟩
 rcases List.mem_append.1 (h.down y (by simp [hy]) a ha) with h1 | h1
 ·exact h1
 ·have := hp.2.2 y hy a h1
  rw [ha] at this; cases this
theorem blkI_in {w : World} {b n : Nat} {l : List Nat} (h : Blk w b ((natsO l).map (Value.int .i64)) 3) (hl : l.length = n) (hn : n ≤ 1000) {B : Nat} (hB : B ≤ b) : IntsIn (frm B w) (.slice (some ⟨b, 0, none⟩) n n) (natsO l) := by
 have e : (natsO l).length = n := by unfold natsO; rw [List.length_map, hl]
 refine ⟨some ⟨b, 0, none⟩, n, by rw [e], by omega, by omega, fun k hk => ⟨b, 0, rfl, ?_⟩⟩
 rw [Nat.zero_add]
 refine frm_pos hB (h.cell k ?_)
 rw [List.getElem?_map, List.getElem?_eq_getElem hk, List.getD_eq_getElem?_getD, List.getElem?_eq_getElem hk]; rfl
theorem natsO_get {l : List Nat} {k : Nat} (hk : k < l.length) : ((natsO l).map (Value.int .i64))[k]? = some (.int .i64 (l.getD k 0 : Nat)) := by
 unfold natsO
 rw [List.getElem?_map, List.getElem?_map, List.getElem?_eq_getElem hk, List.getD_eq_getElem?_getD, List.getElem?_eq_getElem hk]; rfl
theorem natsO_set {l : List Nat} (k x : Nat) : ((natsO l).map (Value.int .i64)).set k (.int .i64 (x : Nat)) = (natsO (l.set k x)).map (Value.int .i64) := by
 unfold natsO
 rw [List.map_set, List.map_set]
theorem levO_lt {n : Nat} {R : RelO} (h : PoO n R) {x : Nat} (hx : x < n) : levO n R x < n := by
 obtain ⟨l, h1, h2, h3⟩ := lev_chain h (levO n R x) x rfl hx
 have hc : (l ++ [x]).Nodup := by
  unfold ChainL at h1
  exact List.Pairwise.imp (fun {a b} hab e => by subst e; rw [h.irr] at hab; cases hab) h1
 have := nodup_le n hc fun y hy => by
  rcases List.mem_append.1 hy with hy | hy
  ·exact h3 y hy
  ·rw [List.mem_singleton.1 hy]; exact hx
 rw [List.length_append, List.length_singleton, h2] at this
 omega
theorem levL_lt {n : Nat} {R : RelO} (h : PoO n R) (l : List Nat) {x : Nat} (hx : x < n) : (levL n R l).getD x 0 < n := by
 rw [levL_get hx]
 split
 ·exact levO_lt h hx
 ·omega
theorem frm_block {B : Nat} {w : World} {a : Addr} {v : Value} (h : frm B w a = some v) : B ≤ a.block ∧ w.cell? a = some v := by
 unfold frm at h; split at h
 ·rename_i hb; exact ⟨hb, h⟩
 ·cases h
theorem set_zero (l : List Nat) (b : Nat) (h : l.getD b 0 = 0) : l.set b 0 = l := by
 refine List.ext_getElem (by simp) fun i h1 h2 => ?_
 rw [List.getElem_set]
 split
 ·rename_i e; subst e
  rw [List.getD_eq_getElem?_getD, List.getElem?_eq_getElem h2] at h
  exact h.symm
 ·rfl
theorem setC' {l : List Nat} {k x : Nat} (h : k < l.length) : (l.set k x).getD k 0 = x := by
 rw [List.getD_eq_getElem?_getD, List.getElem?_set_self h]; rfl
theorem setN' {l : List Nat} {k i x : Nat} (h : i ≠ k) : (l.set k x).getD i 0 = l.getD i 0 := by
 rw [List.getD_eq_getElem?_getD, List.getElem?_set_ne (Ne.symm h), List.getD_eq_getElem?_getD]
abbrev LevG (w X : World) (O : Nat) (l : List Nat) (W : World) : Prop := BoxG w X O 3 ((natsO l).map (Value.int .i64)) ((natsO l).map (Value.int .i64)) true W
set_option maxRecDepth 100000 in
set_option maxHeartbeats 2000000 in
theorem levels_yes (n : Nat) (ps : List (Int × Int)) (pv : Value) (w : World) (hp : PairsIn w.cell? pv ps) (hv : validO ⟨n, ps⟩ = true) : Calls Tryd.prog 28 #[orderV n pv] w (IntsEQ (natsO ((List.range n).map (levO n (beforeO ⟨n, ps⟩)))) w) := by
 obtain ⟨pa, pm, rfl, -, -, -⟩ := id hp
 have hn8 : n ≤ 8 := by
  have hf : formedO ⟨(n : Int), ps⟩ = true := by unfold validO at hv; rw [Bool.and_eq_true] at hv; exact hv.1
  have := (formed_n hf).1.2
  simp only at this
  omega
 have HPO := hide (show PoO n (beforeO ⟨(n : Int), ps⟩) from before_po hv)
 have HR := hide (fun W (hb : Below w.heap.size w W) => by
  have h := read_any ⟨(n : Int), ps⟩ (.slice pa ps.length pm) W (RecIn.below hb hp)
  rw [hv, show readO ⟨(n : Int), ps⟩ = beforeO ⟨(n : Int), ps⟩ by
   have hf : formedO ⟨(n : Int), ps⟩ = true := by unfold validO at hv; rw [Bool.and_eq_true] at hv; exact hv.1
   unfold readO; rw [if_pos hf]] at h
  exact h)
 generalize beforeO ⟨(n : Int), ps⟩ = R at *
 clear hp hv
 have HLI := hide (fun W => linel_any n R W hn8 HPO.out)
 have HLS := hide (line_is HPO.out)
 have HST := hide ((line_is HPO.out).start HPO.out)
 have HNX := hide (fun (l : List Nat) b (hs : StartO n R (l ++ [b])) => levL_next HPO.out hs)
 have HLL := hide (levL_len n R)
 have HL0 := hide (levL_nil n R)
 have HLL2 := hide (levL_line HLS.out)
 have HLT := hide (fun (l : List Nat) {x : Nat} (hx : x < n) => levL_lt HPO.out l hx)
 have HSU := hide (fun (f : Nat → Nat) x k => supF_succ R f x k)
 have HIR := hide HPO.out.irr
 have HSL := hide (fun (f : Nat → Nat) x (k : Nat) (hf : ∀ a, a < k → f a < 8) => (show supF R f x (List.range k) 0 ≤ 8 by
  rcases supF_att (R := R) (f := f) (x := x) (List.range k) 0 with h | ⟨a, ha, -, h⟩
  ·rw [h]; omega
  ·rw [h]; have := hf a (List.mem_range.1 ha); omega))
 have HLG := hide (fun (l : List Nat) {x : Nat} (hx : x < n) (hn : x ∉ l) => (show (levL n R l).getD x 0 = 0 by rw [levL_get hx, if_neg hn]))
 have hmk := @mkInts n (by omega)
 generalize levL n R = LV at *
 generalize lineO n R = LO at *
 go_enter Tryd.func28, Tryd.ntmps28
 go_wp2_with fail
 generalize hX1 : World.alloc w _ = X1
 have zX1 : X1.heap.size = w.heap.size + 1 := by rw [← hX1]; simp
 have bX1 : Below w.heap.size w X1 := by rw [← hX1]; exact bal w _
 have bO : Blk X1 (w.heap.size) [.int .i64 n, .slice pa ps.length pm] 25 := by rw [← hX1]; exact Blk.newA w _ (by first | rfl | simp)
 have Xb := bX1
 have Xz := zX1
 clear hX1 zX1 bX1
 have c0 := bO.cell 0 rfl
 have c1 := bO.cell 1 rfl
 refine (HR.out _ Xb).mono ?_
 rintro e w1 ⟨rfl, hb⟩
 have hw := below2 Xb hb
 replace bO := bO.later hb
 clear c0 c1 hb Xb Xz
 go_upto_region 2 with (fail)
 generalize hY1 : World.alloc w1 _ = Y1
 have zY1 : Y1.heap.size = w1.heap.size + 1 := by rw [← hY1]; simp
 have bY1 : Below w1.heap.size w1 Y1 := by rw [← hY1]; exact bal w1 _
 have bT : Blk Y1 (w1.heap.size) (tabC R) 65 := by rw [← hY1]; exact Blk.newA w1 _ (by first | rfl | simp)
 have Yb := bY1
 have Yz := zY1
 clear hY1 zY1 bY1
 replace bO := bO.later Yb
 have hw2 := below2 hw Yb
 have o0 := bO.cell 0 rfl
 clear Yb Yz hw
 go_upto_region 5 with (fail)
 generalize hZ : World.alloc Y1 _ = Z1
 have hZb : Below Y1.heap.size Y1 Z1 := by rw [← hZ]; exact bal Y1 _
 have bL0 : Blk Z1 Y1.heap.size ((List.replicate n (0 : Int)).map (Value.int .i64)) 3 := by rw [← hZ]; exact Blk.newA Y1 _ (by simp)
 have hTY : w1.heap.size ≠ Y1.heap.size := by have := bT.lt; omega
 have hwZ := below2 hw2 hZb
 replace bO := bO.later hZb
 replace bT := bT.later hZb
 have o0 := bO.cell 0 rfl
 have t0 := bT.cell 0 rfl
 have t1 := bT.cell 1 rfl
 have t2 := bT.cell 2 rfl
 have t3 := bT.cell 3 rfl
 have t4 := bT.cell 4 rfl
 have t5 := bT.cell 5 rfl
 have t6 := bT.cell 6 rfl
 have t7 := bT.cell 7 rfl
 have hsY := hw2.size
 clear hZ
 have hOY : w.heap.size ≠ Y1.heap.size := by have := bO.lt; have := hw2.size; intro e; rw [e] at bO; have := (show Z1.heap[Y1.heap.size]? = _ from bO).symm.trans (show Z1.heap[Y1.heap.size]? = _ from bL0); simp at this
 go_wp2_with fail
 refine (HLI.out _).mono ?_
 rintro e w2 ⟨lv, rfl, hO, hb⟩
 have hLI := hO.intsF (Nat.le_refl _)
 have hZY : Y1.heap.size < Z1.heap.size := bL0.lt
 have hll : (natsO LO).length = n := by unfold natsO; rw [List.length_map, HLS.out.len]
 obtain ⟨la, lc, rfl⟩ := hO.form
 rw [hll]
 have bL1 : Blk w2 Y1.heap.size ((natsO (LV (LO.take 0))).map (Value.int .i64)) 3 := by
  have h := bL0.later hb
  rw [show LO.take 0 = [] from rfl, HL0.out]
  unfold natsO
  rw [List.map_replicate]
  exact h
 have hG0 : LevG w w2 Y1.heap.size (LV (LO.take 0)) w2 := ⟨below2 hwZ hb, Eff.of_below (Below.refl _ _) _, bL1⟩
 have HBO := hide (bO.later hb)
 have HBT := hide (bT.later hb)
 have HLI2 := hide hLI
 have HLO : Hid (∀ k, k < n → ∃ b : Nat, LO.getD k 0 = b ∧ b < n ∧ LO.take (k + 1) = LO.take k ++ [b] ∧ StartO n R (LO.take k ++ [b])) := hide (fun k hk => by
  have hk' : k < LO.length := by rw [HLS.out.len]; exact hk
  have ht := take_succ' LO k 0 hk'
  refine ⟨_, rfl, ?_, ht, ?_⟩
  ·exact (HLS.out.mem _).1 (getD_mem LO k hk')
  ·rw [← ht]
   have h := HST.out
   rw [← List.take_append_drop (k + 1) LO] at h
   exact h.left)
 have hLD : Hid (∀ k, (natsO LO).getD k 0 = ((LO.getD k 0 : Nat) : Int)) := hide (fun k => by
  unfold natsO
  rw [List.getD_eq_getElem?_getD, List.getElem?_map, List.getD_eq_getElem?_getD]
  cases LO[k]? <;> rfl)
 have HZY := hide hZY
 clear hZY o0 t0 t1 t2 t3 t4 t5 t6 t7 bO bT bL0 bL1 hO hb hLI hmk hwZ hw2 hZb HLI
 go_wp2_with fail
 go_loopw [25] (fun i wr => ∃ k : Nat, k ≤ n ∧ i = .int .i64 k ∧ LevG w w2 Y1.heap.size (LV (LO.take k)) wr) (fun i _ => n - (intOf i).toNat)
 case atStart => exact ⟨0, by omega, rfl, hG0⟩
 case round =>
  obtain ⟨k, hk, rfl, hG⟩ := hrel
  by_cases hlk : k < n
  ·have hlkI : (k : Int) < n := by omega
   have HK := hide hlk
   obtain ⟨a', m', e', -, -, hc⟩ := HLI2.out
   cases e'
   obtain ⟨lb, lo, rfl, hck⟩ := hc k (by rw [hll]; exact hlk)
   obtain ⟨b, hb0, hbn, htk, hst⟩ := HLO.out k hlk
   rw [hLD.out, hb0] at hck
   obtain ⟨hlb, hck⟩ := frm_block hck
   have hck' := hG.cell (show lb ≠ Y1.heap.size by have := HZY.out; have : Z1.heap.size ≤ lb := hlb; omega) hck
   have o0 := (hG.blk HBO.out hOY).cell 0 rfl
   have HNX' := hide (HNX.out _ _ hst)
   have HTK := hide htk
   have hb8 : b < 8 := by omega
   have hb8I : (b : Int) < 8 := by omega
   have hbnI : (b : Int) < n := by omega
   obtain ⟨f, hf⟩ : ∃ f : Nat → Nat, f = fun a => (LV (LO.take k)).getD a 0 := ⟨_, rfl⟩
   have HF8 := hide (fun a (ha : a < n) => (show f a < 8 by rw [hf]; have := HLT.out (LO.take k) ha; show (LV (LO.take k)).getD a 0 < 8; omega))
   have HFA := hide (fun a => (show (LV (LO.take k)).getD a 0 = f a by rw [hf]))
   rw [← hf] at HNX'
   have hlv := HLL.out (LO.take k)
   have HG0 := hide (HLG.out (LO.take k) hbn (fun hm => (List.nodup_append.1 hst.nod).2.2 b hm b (by simp) rfl))
   generalize LV (LO.take k) = l0 at *
   have hG1 : LevG w w2 Y1.heap.size (l0.set b (supF R f b (List.range 0) 0)) wr := by
    have e : l0.set b (supF R f b (List.range 0) 0) = l0 := set_zero _ _ HG0.out
    rw [e]; exact hG
   clear hck hc hlb hb0 hst htk hf hG
   go_wp2_with fail
   go_loopw [31] (fun j wz => ∃ a : Nat, a ≤ n ∧ j = .int .i64 a ∧ LevG w w2 Y1.heap.size (l0.set b (supF R f b (List.range a) 0)) wz) (fun j _ => n - (intOf j).toNat)
   case atStart => exact ⟨0, by omega, rfl, hG1⟩
   case round =>
    clear hG1
    obtain ⟨a, ha, rfl, hG⟩ := hrel
    by_cases hla : a < n
    ·have hlaI : (a : Int) < n := by omega
     have HA := hide hla
     have ha8 : a < 8 := by omega
     have ha8I : (a : Int) < 8 := by omega
     have t0 := (hG.blk HBT.out hTY).cell b (tabC_get _ b hb8)
     obtain ⟨S, hS⟩ : ∃ S : Nat, bitsO (fun x => R x b) = S := ⟨_, rfl⟩
     have hS8 : S < 256 := by rw [← hS]; exact bits_lt _
     rw [show setI R b = (S : Int) by show ((bitsO _ : Nat) : Int) = _; rw [hS]] at t0
     have hbt := bit_test (k := a) hS8
     rw [← hS, bits_test, decide_eq_true ha8, Bool.true_and, hS] at hbt
     have HSS := hide (HSU.out f b a)
     have hsl := HSL.out f b a (fun x hx => HF8.out x (by omega))
     cases hr : R a b
     ·rw [hr] at hbt HSS
      have HG1 : Hid (LevG w w2 Y1.heap.size (l0.set b (supF R f b (List.range (a + 1)) 0)) wr) := hide (by rw [HSS.out]; exact hG)
      clear hr hS hG hsl
      go_wp2_with fail
      go_roundw
      case rel => exact ⟨a + 1, by have := HA.out; omega, by go_num, HG1.out⟩
      case measure => have := HA.out; simp [intOf]; omega
     ·rw [hr] at hbt HSS
      have hne : a ≠ b := fun e => by subst e; rw [HIR.out] at hr; cases hr
      obtain ⟨s, hs⟩ : ∃ s : Nat, supF R f b (List.range a) 0 = s := ⟨_, rfl⟩
      rw [hs] at hsl HSS hG
      have hfa := HF8.out a hla
      obtain ⟨fa, hfe⟩ : ∃ fa : Nat, f a = fa := ⟨_, rfl⟩
      rw [hfe] at hfa HSS
      have ob := hG.done.cell b (natsO_get (l := l0.set b s) (by rw [List.length_set, hlv]; exact hbn))
      rw [setC' (by rw [hlv]; exact hbn)] at ob
      have oa := hG.done.cell a (natsO_get (l := l0.set b s) (by rw [List.length_set, hlv]; exact hla))
      rw [setN' hne, HFA.out, hfe] at oa
      have hmx : (if (s : Int) < (fa : Int) + 1 then (fa : Int) + 1 else s) = ((max s (fa + 1) : Nat) : Int) := by split <;> omega
      clear hr hS hs hfe
      go_wp2_with fail
      refine wp_region_still_tail 13 (by kernel_rfl) (by kernel_rfl) ?_
      simp only [List.take_succ_cons, List.take_zero, List.drop_succ_cons, List.drop_zero]
      repeat (with_reducible refine wpStill_step (fun K hK => ?_) ; go_simp ; with_reducible refine hK _ ?_ ; clear hK K)
      refine wpStill_nil ?_
      change wpList _ _ _ _ _ wr.drew
      have hbd : Below wr.heap.size wr wr.drew := (Below.refl _ _).drew
      generalize World.drew wr = V2 at hbd ⊢
      have hG2 := hG.later hbd
      have z0 := hG2.done.cell b (natsO_get (l := l0.set b s) (by rw [List.length_set, hlv]; exact hbn))
      have zf := hG2.done.frozen b
      have HG3 : Hid (LevG w w2 Y1.heap.size (l0.set b (supF R f b (List.range (a + 1)) 0)) (V2.setCell ⟨Y1.heap.size, b, none⟩ (.int .i64 ((max s (fa + 1) : Nat) : Int)))) := hide (by
       refine ⟨hG2.hb.setCell (p := ⟨Y1.heap.size, b, none⟩) hsY _, hG2.hE.trans (Eff.setCell _ _ _ _), ?_⟩
       have h := hG2.done.set b (.int .i64 ((max s (fa + 1) : Nat) : Int))
       rw [natsO_set, List.set_set] at h
       rw [HSS.out]
       exact h)
      clear hG2 hbd hG ob oa t0
      go_wp2_with fail
      go_roundw
      case rel => exact ⟨a + 1, by have := HA.out; omega, by go_num, HG3.out⟩
      case measure => have := HA.out; simp [intOf]; omega
    ·obtain rfl : a = n := by omega
     have HG1 : Hid (LevG w w2 Y1.heap.size (LV (LO.take (k + 1))) wr) := hide (by rw [HTK.out, HNX'.out]; exact hG)
     clear hG
     go_wp2_with fail
     go_roundw
     case rel => exact ⟨k + 1, by have := HK.out; omega, by go_num, HG1.out⟩
     case measure => have := HK.out; simp [intOf]; omega
  ·obtain rfl : k = n := by omega
   have HFI : Hid (IntsIn (frm w.heap.size wr) (.slice (some ⟨Y1.heap.size, 0, none⟩) k k) (natsO ((List.range k).map (levO k R)))) := hide (by
    rw [← HLL2.out]
    have e : LO.take k = LO := List.take_of_length_le (by rw [HLS.out.len]; exact Nat.le_refl _)
    rw [e] at hG
    exact blkI_in hG.done (HLL.out LO) (by omega) hsY)
   have HWF := hide hG.hb
   clear hG
   go_wp2_with fail
   go_ret2
   exact ⟨_, rfl, HFI.out, HWF.out⟩
end Go.Proofs.YtnidcoinfmcffaaDoor
