/- The walk of Made (chapter 15's reference). Conditions: how the pairs lie in memory; that integers are of 64 bits. -/
import Derived.Test.YtnidcoinfmcffaaDoorOtD
namespace Go.Proofs.YtnidcoinfmcffaaDoor
open Go.RowKit
attribute [local go_sem] Oper.semAt_some
/-- what stands while a hidden line is drawn -/
structure MdG (w : World) (P Rb N : Nat) (qv : Value) (L : List (List Value)) (W : World) : Prop where
 own : OwnR W w.heap.size 46 2 qv L
 bP : Blk W P [.int .i64 (N : Nat), qv] 25
 bR : Blk W Rb [.int .i64 0, .slice none 0 0] 25
 hb : Below w.heap.size w W
section
variable {w : World} {P Rb N : Nat} {qv : Value} {L : List (List Value)} {W W' : World}
theorem MdG.later (h : MdG w P Rb N qv L W) (hb : Below W.heap.size W W') : MdG w P Rb N qv L W' := ⟨OwnR.later' h.own hb, h.bP.later hb, h.bR.later hb, below2 h.hb hb⟩
theorem MdG.effI {B : Nat} {v : Value} {l : List Int} (h : MdG w P Rb N qv L W) (ho : OwnI W B v l) (hB : w.heap.size ≤ B) (hE : Eff (fun k => some k = v.ownBlock) W W') : MdG w P Rb N qv L W' :=
 ⟨OwnR.eff h.own hE fun g hg e => own_types h.own ho (by decide) hg e.symm, h.bP.eff hE fun e => ho.neT h.bP (by decide) e.symm, h.bR.eff hE fun e => ho.neT h.bR (by decide) e.symm, h.hb.trans (hE.below h.hb.size fun k e => Nat.le_trans hB (ho.ltB e.symm).1)⟩
end
theorem OwnR.put2 {W : World} {B g c i : Nat} {e : TypeId} {L : List (List Value)} {m : Nat} (h : OwnR W B e 2 (.slice (some ⟨g, 0, none⟩) m c) L) (hi : i < L.length) (u v : Value) :
  OwnR ((W.setCell ⟨g, i * 2, none⟩ u).setCell ⟨g, i * 2 + 1, none⟩ v) B e 2 (.slice (some ⟨g, 0, none⟩) m c) (L.set i [u, v]) := by
 have hm := h.formN
 subst hm
 have hr := h.2 _ (getD_mem L i (d := []) hi)
 have h1 := h.set i 0 hi (by decide) u
 rw [Nat.add_zero] at h1
 have h1' : OwnR (W.setCell ⟨g, i * 2, none⟩ u) B e 2 (.slice (some ⟨g, 0, none⟩) (L.set i ((L.getD i []).set 0 u)).length c) (L.set i ((L.getD i []).set 0 u)) := by rw [List.length_set]; exact h1
 have h2 := h1'.set i 1 (by rw [List.length_set]; exact hi) (by decide) v
 rw [List.length_set, List.set_set] at h2
 have e1 : ((L.set i ((L.getD i []).set 0 u)).getD i []).set 1 v = [u, v] := by
  have e2 : (L.set i ((L.getD i []).set 0 u)).getD i [] = (L.getD i []).set 0 u := by rw [List.getD_eq_getElem?_getD, List.getElem?_set_self hi]; rfl
  rw [e2]
  match L.getD i [], hr with
  | [a, b], _ => rfl
 rw [e1] at h2
 exact h2
theorem MdG.put {w : World} {P Rb N g m c i : Nat} {L : List (List Value)} {W : World} (h : MdG w P Rb N (.slice (some ⟨g, 0, none⟩) m c) L W) (hi : i < L.length) (u v : Value) :
  MdG w P Rb N (.slice (some ⟨g, 0, none⟩) m c) (L.set i [u, v]) ((W.setCell ⟨g, i * 2, none⟩ u).setCell ⟨g, i * 2 + 1, none⟩ v) := by
 have hgP : P ≠ g := by
  rintro rfl
  rcases h.own.form with ⟨e, -⟩ | ⟨g', c', cur, e1, -, e3, -⟩
  ·cases e
  ·cases e1
   have := (show W.heap[P]? = _ from h.bP).symm.trans e3
   simp at this
 have hgR : Rb ≠ g := by
  rintro rfl
  rcases h.own.form with ⟨e, -⟩ | ⟨g', c', cur, e1, -, e3, -⟩
  ·cases e
  ·cases e1
   have := (show W.heap[Rb]? = _ from h.bR).symm.trans e3
   simp at this
 have hg := (h.own.ltB (g := g) rfl).1
 exact ⟨h.own.put2 hi u v, (h.bP.other hgP _ _).other hgP _ _, (h.bR.other hgR _ _).other hgR _ _, (h.hb.setCell (p := ⟨g, i * 2, none⟩) hg _).setCell (p := ⟨g, i * 2 + 1, none⟩) hg _⟩
def mixO (f : Int × Int → Int × Int) (ps : List (Int × Int)) (i : Nat) : List (Int × Int) := (ps.take i).map f ++ ps.drop i
theorem mix_full (f : Int × Int → Int × Int) (ps : List (Int × Int)) : mixO f ps ps.length = ps.map f := by simp [mixO]
theorem mix_len (f : Int × Int → Int × Int) (ps : List (Int × Int)) {i : Nat} (hi : i ≤ ps.length) : (mixO f ps i).length = ps.length := by simp [mixO]; omega
theorem mix_at (f : Int × Int → Int × Int) {ps : List (Int × Int)} {i : Nat} (hi : i < ps.length) : (mixO f ps i).getD i (0, 0) = ps.getD i (0, 0) := by
 unfold mixO
 have hl : ((ps.take i).map f).length = i := by simp; omega
 rw [List.getD_eq_getElem?_getD, List.getElem?_append_right (by omega), hl, Nat.sub_self, List.getElem?_drop, Nat.add_zero, List.getD_eq_getElem?_getD]
theorem mix_set (f : Int × Int → Int × Int) {ps : List (Int × Int)} {i : Nat} (hi : i < ps.length) : (mixO f ps i).set i (f (ps.getD i (0, 0))) = mixO f ps (i + 1) := by
 unfold mixO
 have hl : ((ps.take i).map f).length = i := by simp; omega
 rw [List.set_append_right _ _ (by omega), hl, Nat.sub_self, take_succ' ps i (0, 0) hi, List.map_append, List.append_assoc]
 congr 1
 rw [List.drop_eq_getElem_cons hi, List.set_cons_zero]; rfl
theorem mix_same (f : Int × Int → Int × Int) {ps : List (Int × Int)} {i : Nat} (hi : i < ps.length) (h : f (ps.getD i (0, 0)) = ps.getD i (0, 0)) : mixO f ps (i + 1) = mixO f ps i := by
 rw [← mix_set f hi, h]
 refine List.ext_getElem (by simp) fun j h1 h2 => ?_
 rw [List.getElem_set]
 split
 ·rename_i e; subst e
  have := mix_at f hi
  rw [List.getD_eq_getElem?_getD, List.getElem?_eq_getElem h2] at this
  exact this.symm
 ·rfl
theorem pairs_set (l : List (Int × Int)) (i : Nat) (p : Int × Int) : (l.map pairC).set i (pairC p) = (l.set i p).map pairC := by rw [List.map_set]
theorem keeps_off {W W' : World} {pv v' : Value} (hE : Eff (fun k => some k = pv.ownBlock) W W') (h : v'.ownBlock = pv.ownBlock ∨ ∀ g, v'.ownBlock = some g → W.heap.size ≤ g) : Keeps (offV pv W.cell?) (offV v' W'.cell?) := fun a v hc => by
 unfold offV at hc ⊢
 split at hc
 ·cases hc
 ·rename_i hne
  have hlt := lt_of_cell hc
  rw [if_neg, World.cell?_of_block (hE.block a.block hlt hne)]
  ·exact hc
  ·rcases h with h | h
   ·rw [h]; exact hne
   ·intro e; have := h a.block e.symm; omega
theorem keeps_off2 {W W' : World} {pv : Value} (hg : W.grownBy W' none) : Keeps (offV pv W.cell?) (offV pv W'.cell?) := fun a v hc => by
 unfold offV at hc ⊢
 split at hc
 ·cases hc
 ·rename_i hne
  rw [if_neg hne, World.cell?_of_block (hg.block a.block (lt_of_cell hc) (by simp))]
  exact hc
theorem below_grownN {W W' : World} (hg : W.grownBy W' none) : Below W.heap.size W W' := ⟨hg.os, hg.tape, hg.output, hg.size, fun k hk => hg.block k hk (by simp)⟩
theorem OwnI.off {W : World} {B : Nat} {v v3 : Value} {L : List Int} (h : OwnI W B v L) (h3 : ∀ g, v3.ownBlock = some g → g < B) : IntsIn (offV v3 W.cell?) v L := (h.intsF (Nat.le_refl B)).keeps fun a u hc => by
 obtain ⟨h1, h2⟩ := frm_block hc
 unfold offV
 rw [if_neg (fun e => by have := h3 a.block e.symm; omega)]
 exact h2
theorem nats_take (l : List Nat) (k : Nat) : (natsO l).take k = natsO (l.take k) := by unfold natsO; rw [List.map_take]
theorem nats_drop (l : List Nat) (k : Nat) : (natsO l).drop k = natsO (l.drop k) := by unfold natsO; rw [List.map_drop]
theorem nats_app (l m : List Nat) : natsO l ++ natsO m = natsO (l ++ m) := by unfold natsO; rw [List.map_append]
set_option maxRecDepth 100000 in
set_option maxHeartbeats 2000000 in
theorem made_any (n : Int) (xs : List (Int × Int)) (line : Int) (xv : Value) (w : World) (hn : i64B n) (hl : i64B line) (hx : PairsIn w.cell? xv xs) (h64 : ∀ p ∈ xs, i64B p.1 ∧ i64B p.2) : Calls Tryd.prog 12 #[.int .i64 n, xv, .int .i64 line] w (OrdOQ (looseN n : Nat) (madeO n xs line).pairs w) := by
 have HLO := hide (fun W (hb : Below w.heap.size w W) => loose_any n xs xv W hn (RecIn.below hb hx) h64)
 have HPK := hide (fun W => pickr_any line 40320 W hl (by decide) (by decide))
 have hN8 := looseN_le n
 have HMD : Hid ((madeO n xs line).pairs = (looseL (looseN n) xs).map (madeF (placeO (looseN n) line))) := hide rfl
 have hll := loose_len (looseN n) xs
 have HOK := hide (loose_all (looseN n) xs)
 have hpl := pk_lt line (n := 40320) (by decide)
 have HPL : Hid (placeO (looseN n) line = drawO (looseN n) (pkO line 40320) (List.range (looseN n))) := hide rfl
 have HPN := hide (place_len (looseN n) line)
 generalize looseL (looseN n) xs = ps at *
 generalize (madeO n xs line).pairs = MD at *
 generalize placeO (looseN n) line = PL at *
 generalize looseN n = N at *
 generalize pkO line 40320 = m0 at *
 obtain ⟨xa, xc, rfl, -, -, -⟩ := id hx
 clear hx h64 hn hl
 go_enter Tryd.func12, Tryd.ntmps12
 go_wp2_with fail
 generalize hX1 : World.alloc w _ = X1
 have zX1 : X1.heap.size = w.heap.size + 1 := by rw [← hX1]; simp
 have bX1 : Below w.heap.size w X1 := by rw [← hX1]; exact bal w _
 have bR : Blk X1 (w.heap.size) [.int .i64 0, .slice none 0 0] 25 := by rw [← hX1]; exact Blk.newA w _ (by first | rfl | simp)
 have Xb := bX1
 have Xz := zX1
 clear hX1 zX1 bX1
 refine (HLO.out _ Xb).mono ?_
 rintro e w1 ⟨qv, rfl, hO, hb1⟩
 have bR1 := bR.later hb1
 have hw1 := below2 Xb hb1
 have hO1 := OwnR.weaken' hO (show w.heap.size ≤ X1.heap.size by omega)
 obtain ⟨qa, qc, rfl⟩ := OwnR.formE hO1
 rw [List.length_map] at hO1 ⊢
 clear bR Xb Xz hb1 hO HLO
 go_upto_region 2 with (fail)
 generalize hY1 : World.alloc w1 _ = Y1
 have zY1 : Y1.heap.size = w1.heap.size + 1 := by rw [← hY1]; simp
 have bY1 : Below w1.heap.size w1 Y1 := by rw [← hY1]; exact bal w1 _
 have bP : Blk Y1 (w1.heap.size) [.int .i64 (N : Nat), .slice qa ps.length qc] 25 := by rw [← hY1]; exact Blk.newA w1 _ (by first | rfl | simp)
 have Yb := bY1
 have Yz := zY1
 clear hY1 zY1 bY1
 have hG0 : MdG w w1.heap.size w.heap.size N (.slice qa ps.length qc) (ps.map pairC) Y1 := ⟨OwnR.later' hO1 Yb, bP, bR1.later Yb, below2 hw1 Yb⟩
 have hPw := hw1.size
 obtain ⟨P, hP⟩ : ∃ P, w1.heap.size = P := ⟨_, rfl⟩
 rw [hP] at hG0 hPw ⊢
 clear bP bR1 hw1 hO1 Yb Yz hP
 go_wp2_with fail
 refine (HPK.out _).mono ?_
 rintro e w2 ⟨rfl, hw2⟩
 obtain rfl := hw2
 obtain ⟨B, hB⟩ : ∃ B, w2.heap.size = B := ⟨_, rfl⟩
 have hBw : w.heap.size ≤ B := by rw [← hB]; exact hG0.hb.size
 have hB2 : B ≤ w2.heap.size := by omega
 have HG0 := hide hG0
 clear hG0 hB HPK
 go_wp2_with fail
 go_loopw [10, 11] (fun lv i wr => ∃ k : Nat, k ≤ N ∧ i = .int .i64 k ∧ OwnI wr B lv (natsO (List.range k)) ∧ MdG w P w.heap.size N (.slice qa ps.length qc) (ps.map pairC) wr ∧ B ≤ wr.heap.size) (fun _ i _ => N - (intOf i).toNat)
 case atStart => exact ⟨0, by omega, rfl, OwnI.nil _ _, HG0.out, hB2⟩
 case round =>
  obtain ⟨k, hk, rfl, hO, hG, hsz⟩ := hrel
  obtain ⟨la, lc, rfl⟩ := hO.form
  have hln : (natsO (List.range k)).length = k := by unfold natsO; rw [List.length_map, List.length_range]
  rw [hln] at hO ⊢
  have r0 := hG.bP.cell 0 rfl
  by_cases hlt : k < N
  ·have hltI : (k : Int) < N := by omega
   have HK := hide hlt
   have HE : Hid (natsO (List.range k) ++ [(k : Int)] = natsO (List.range (k + 1))) := hide (by rw [List.range_succ, natsO_snoc])
   have HG := hide hG
   generalize natsO (List.range k) = l at *
   clear hG
   go_wp2_with (at_builtin; refine app_intE rfl _ _ rfl B _ l rfl hO (k : Int) rfl (by omega) hsz ?_; intro v3 w3 hO3 hE3 hob3; have HG3 := hide (HG.out.effI hO hBw hE3); have HSZ3 := hide (Nat.le_trans hsz hE3.size); rw [HE.out] at hO3; have HO3 := hide hO3; clear hO3 hE3 hob3)
   go_roundw
   case rel => exact ⟨k + 1, by have := HK.out; omega, by go_num, HO3.out, HG3.out, HSZ3.out⟩
   case measure => have := HK.out; simp [intOf]; omega
  ·obtain rfl : k = N := by omega
   have HRN : Hid ([] ++ drawO k m0 (List.range k) = PL) := hide (by rw [List.nil_append]; exact HPL.out.symm)
   have hLI : IntsIn (offV (.slice none 0 0) wr.cell?) (.slice la k lc) (natsO (List.range k)) := hO.ints.keeps (fun a v h => by unfold offV; rw [if_neg (by simp [Value.ownBlock])]; exact h)
   have HLI := hide hLI
   have HG := hide hG
   have hlk : (List.range k).length = k := by simp
   have HLK := hide hlk
   clear hO hG hLI HG0 hB2 hlk
   go_wp2_with fail
   go_loopw [8, 9, 10] (fun pv mv lv wz => ∃ (t l : List Nat) (m : Nat), t.length + l.length = k ∧ Hid (t ++ drawO l.length m l = PL) ∧ mv = .int .i64 m ∧ m < 40320 ∧ OwnI wz B pv (natsO t) ∧ IntsIn (offV pv wz.cell?) lv (natsO l) ∧ MdG w P w.heap.size k (.slice qa ps.length qc) (ps.map pairC) wz ∧ B ≤ wz.heap.size) (fun _ _ lv _ => lenV lv)
   case atStart => exact ⟨[], List.range k, m0, by rw [HLK.out]; simp, by rw [HLK.out]; exact HRN, rfl, hpl, OwnI.nil _ _, HLI.out, HG.out, hsz⟩
   case round =>
    clear hsz
    obtain ⟨t, l, m, htl, HD, rfl, hm, hO, hL, hG, hsz⟩ := hrel
    obtain ⟨pa, pc, rfl⟩ := hO.form
    obtain ⟨a', c', e', hL1, hL2, hLc⟩ := id hL
    subst e'
    have hnl : (natsO l).length = l.length := by unfold natsO; rw [List.length_map]
    have hnt : (natsO t).length = t.length := by unfold natsO; rw [List.length_map]
    rw [hnl] at hL ⊢
    rw [hnt] at hO hL ⊢
    by_cases h0 : 0 < l.length
    ·have h0I : (0 : Int) < l.length := by omega
     have hne : l ≠ [] := fun e => by subst e; simp at h0
     have hkl := Nat.mod_lt m h0
     have hdl := Nat.div_le_self m l.length
     have HDR : Hid (t ++ l.getD (m % l.length) 0 :: drawO (l.length - 1) (m / l.length) (l.take (m % l.length) ++ l.drop (m % l.length + 1)) = PL) := hide (by
      have h := HD.out
      obtain ⟨q, hq⟩ : ∃ q, l.length = q + 1 := ⟨l.length - 1, by omega⟩
      rw [hq] at h
      unfold drawO at h
      rw [if_neg hne] at h
      rw [hq, Nat.add_sub_cancel]
      rw [hq] at h
      exact h)
     have hcl := draw_cut hkl
     have hr1 : (m : Int).tmod l.length = ((m % l.length : Nat) : Int) := by rw [Int.tmod_eq_emod_of_nonneg (by omega)]; rfl
     have hr2 : (m : Int) % l.length = ((m % l.length : Nat) : Int) := rfl
     have hr3 : (m : Int).tdiv l.length = ((m / l.length : Nat) : Int) := by rw [Int.tdiv_eq_ediv_of_nonneg (by omega)]; rfl
     have hr4 : (m : Int) / l.length = ((m / l.length : Nat) : Int) := rfl
     have hz : ¬ l.length = 0 := by omega
     obtain ⟨b0, o0, rfl, hck⟩ := hLc (m % l.length) (by rw [hnl]; exact hkl)
     rw [natsO_at] at hck
     have l0 := offV_at _ _ hck
     generalize m % l.length = k1 at *
     generalize m / l.length = m1 at *
     have hk1I : (k1 : Int) < l.length := by omega
     obtain ⟨y, hy⟩ : ∃ y, l.getD k1 0 = y := ⟨_, rfl⟩
     rw [hy] at l0 HDR
     have hlk1 : k1 ≤ (natsO l).length := by omega
     have hlk2 : k1 + 1 ≤ (natsO l).length := by omega
     have hN8' : t.length + l.length ≤ 8 := by omega
     generalize hnl2 : l.length = nl at *
     have HNL := hide hnl2
     have HG := hide hG
     have HLL := hide hL
     have hct : t.length < 1000000 := by omega
     have hnlI : (nl : Int) ≤ 9223372036854775807 := by omega
     clear hG hL hLc hck hy hnl2 hne
     go_upto_region 13 with (at_builtin; refine app_intE rfl _ _ rfl B _ (natsO t) rfl hO (y : Int) rfl (by rw [hnt]; exact hct) hsz ?_; intro v3 w3 hO3 hE3 hob3; have HG3 := hide (HG.out.effI hO hBw hE3); have HSZ3 := hide (Nat.le_trans hsz hE3.size); have HL3 := hide (HLL.out.keeps (keeps_off hE3 hob3)); have HO3 := hide hO3; clear hO3 hE3 hob3)
     have hkc : k1 ≤ c' := by omega
     have hkcI : (k1 : Int) ≤ c' := by omega
     have hk2 : k1 + 1 ≤ nl := by omega
     have hk2I : (k1 : Int) + 1 ≤ nl := by omega
     have hwr : IntKind.i64.wrap ((k1 : Int) + 1) = (k1 : Int) + 1 := IntWalk.i64_in _ ⟨by omega, by omega⟩
     have hk0 : (0 : Int) ≤ (k1 : Int) + 1 := by omega
     refine wp_region_still_tail 8 (by kernel_rfl) (by kernel_rfl) ?_
     simp only [List.take_succ_cons, List.take_zero, List.drop_succ_cons, List.drop_zero]
     repeat (with_reducible refine wpStill_step (fun K hK => ?_) ; go_simp ; with_reducible refine hK _ ?_ ; clear hK K)
     refine wpStill_nil ?_
     change wpList _ _ _ _ _ w3.drew
     obtain ⟨a2, ha2⟩ : ∃ a2, (if c' = k1 + 1 then (some ⟨b0, o0, none⟩ : Option Addr) else some ⟨b0, o0 + (k1 + 1), none⟩) = a2 := ⟨_, rfl⟩
     rw [ha2]
     have hLd : IntsIn (offV v3 w3.drew.cell?) (.slice (some ⟨b0, o0, none⟩) nl c') (natsO l) := HL3.out.keeps (keeps_off2 ⟨rfl, rfl, rfl, Nat.le_refl _, fun _ _ _ => rfl⟩)
     have hT := hLd.take hlk1
     have hDp := hLd.drop (a2 := a2) hlk2 (fun h => by rw [← ha2, if_neg (by omega)])
     rw [nats_take] at hT
     rw [nats_drop] at hDp
     have HGD := hide (HG3.out.later (Below.refl _ _).drew)
     have HOD := hide (own_later HO3.out (Below.refl w3.heap.size w3).drew)
     have HSD : Hid (B ≤ w3.drew.heap.size) := hide HSZ3.out
     generalize World.drew w3 = V at *
     have HLX := hide hcl
     have htd : (natsO (l.take k1)).length + (natsO (l.drop (k1 + 1))).length < 1000000 := by unfold natsO; rw [List.length_map, List.length_map, List.length_take, List.length_drop]; have := HNL.out; omega
     refine app_cut rfl _ _ rfl (some ⟨b0, o0, none⟩) a2 k1 _ _ (natsO (l.take k1)) (natsO (l.drop (k1 + 1))) rfl (hT.keeps offV_at) rfl (hDp.keeps offV_at) htd ?_
     intro v4 W4 hr
     obtain ⟨h4, hG4, hO4, hS4⟩ : IntsIn (offV v3 W4.cell?) v4 (natsO (l.take k1 ++ l.drop (k1 + 1))) ∧ MdG w P w.heap.size k (.slice qa ps.length qc) (ps.map pairC) W4 ∧ OwnI W4 B v3 (natsO t ++ [(y : Int)]) ∧ B ≤ W4.heap.size := by
      rcases hr with ⟨rfl, rfl, hr⟩ | ⟨hr, hg⟩
      ·refine ⟨?_, HGD.out, HOD.out, HSD.out⟩
       rw [← nats_app, hr, List.append_nil]; exact hT
      ·have hb := below_grownN hg
       refine ⟨?_, HGD.out.later hb, own_later HOD.out hb, Nat.le_trans HSD.out hb.size⟩
       rw [← nats_app]
       exact hr.off fun g e => (HOD.out.ltB e).2
     obtain ⟨va, vc, rfl, -, -, -⟩ := id h4
     have hvl : (natsO (l.take k1 ++ l.drop (k1 + 1))).length = nl - 1 := by unfold natsO; rw [List.length_map]; omega
     rw [hvl] at h4 ⊢
     have H4 := hide h4
     have HG4 := hide hG4
     have HO4 := hide (show OwnI W4 B v3 (natsO (t ++ [y])) by rw [natsO_snoc]; exact hO4)
     have HS4 := hide hS4
     have HM1 := hide (show m1 < 40320 by omega)
     have HTL := hide (show (t ++ [y]).length + (l.take k1 ++ l.drop (k1 + 1)).length = k by rw [List.length_append, List.length_singleton]; omega)
     have HD1 : Hid ((t ++ [y]) ++ drawO (l.take k1 ++ l.drop (k1 + 1)).length m1 (l.take k1 ++ l.drop (k1 + 1)) = PL) := hide (by
      rw [List.append_assoc, show (l.take k1 ++ l.drop (k1 + 1)).length = nl - 1 by omega]
      exact HDR.out)
     have HNP := hide h0
     clear h4 hG4 hO4 hS4 hr hT hDp hLd hvl htd HGD HOD HSD
     go_wp2_with fail
     go_roundw
     case rel => exact ⟨t ++ [y], l.take k1 ++ l.drop (k1 + 1), m1, HTL.out, HD1, rfl, HM1.out, HO4.out, H4.out, HG4.out, HS4.out⟩
     case measure => have := HNP.out; simp [lenV]; omega
    ·have hl0 : l = [] := List.eq_nil_of_length_eq_zero (by omega)
     subst hl0
     rw [show ([] : List Nat).length = 0 from rfl]
     have hT : t = PL := by have h := HD.out; rw [draw_nil, List.append_nil] at h; exact h
     subst hT
     have hTk := HPN.out
     rw [hTk] at hO hL ⊢
     have hG0 : MdG w P w.heap.size k (.slice qa ps.length qc) ((mixO (madeF t) ps 0).map pairC) wr := hG
     have HO := hide hO
     have HG0 := hide hG0
     clear hO hL hG hsz HD h0 hL1 hL2 hLc hpl htl hTk hG0
     have hpI : (ps.length : Int) ≤ 9223372036854775807 := by omega
     go_wp2_with fail
     go_loopw [13] (fun i wz => ∃ j : Nat, j ≤ ps.length ∧ i = .int .i64 j ∧ MdG w P w.heap.size k (.slice qa ps.length qc) ((mixO (madeF t) ps j).map pairC) wz ∧ OwnI wz B (.slice pa k pc) (natsO t)) (fun i _ => ps.length - (intOf i).toNat)
     case atStart => exact ⟨0, by omega, rfl, HG0.out, HO.out⟩
     case round =>
      obtain ⟨j, hj, rfl, hG, hO⟩ := hrel
      have r1 := hG.bP.cell 1 rfl
      by_cases hlj : j < ps.length
      ·have hljI : (j : Int) < ps.length := by omega
       have HJ := hide hlj
       have hok := HOK.out _ (getD_mem ps j (d := (0, 0)) hlj)
       have HMA := hide (mix_at (madeF t) hlj)
       have HMS := hide (mix_set (madeF t) hlj)
       have HMQ := hide (fun h => mix_same (madeF t) hlj h)
       have hml := mix_len (madeF t) (ps := ps) (i := j) (by omega)
       obtain ⟨p, hp⟩ : ∃ p, ps.getD j (0, 0) = p := ⟨_, rfl⟩
       rw [hp] at hok HMA HMS HMQ
       obtain ⟨p0, p1⟩ := p
       have hok := of_decide_eq_true hok
       simp only at hok
       obtain ⟨g0, g1, g2, g3, -⟩ := hok
       obtain ⟨u, rfl⟩ : ∃ u : Nat, p0 = u := ⟨p0.toNat, by omega⟩
       obtain ⟨v, rfl⟩ : ∃ v : Nat, p1 = v := ⟨p1.toNat, by omega⟩
       have huk : u < k := by omega
       have hvk : v < k := by omega
       have huI : (u : Int) < k := by omega
       have hvI : (v : Int) < k := by omega
       have hjm : j < (mixO (madeF t) ps j).length := by rw [hml]; exact hlj
       have hMF : Hid (madeF t ((u : Int), (v : Int)) = if t.getD v 0 < t.getD u 0 then ((v : Int), (u : Int)) else ((u : Int), (v : Int))) := hide (by unfold madeF; simp only [Int.toNat_natCast])
       generalize mixO (madeF t) ps j = ML at *
       generalize hMX : mixO (madeF t) ps (j + 1) = MN at *
       have HMX := hide hMX
       clear hMX
       obtain ⟨gq, rfl⟩ : ∃ gq, qa = some ⟨gq, 0, none⟩ := by
        rcases hG.own.form with ⟨-, e⟩ | ⟨g, c0, cur, e, -⟩
        ·have h9 : (ML.map pairC).length = 0 := by rw [e]; rfl
         rw [List.length_map] at h9; omega
        ·exact ⟨g, (Value.slice.inj e).1⟩
       have hMD : (ML.map pairC).getD j [] = [.int .i64 (u : Int), .int .i64 (v : Int)] := by
        have h := HMA.out
        rw [List.getD_eq_getElem?_getD, List.getElem?_eq_getElem hjm] at h
        rw [List.getD_eq_getElem?_getD, List.getElem?_map, List.getElem?_eq_getElem hjm]
        exact congrArg pairC h
       have q0 := hG.own.cell j 0 (by rw [List.length_map]; exact hjm) (by decide) (u := .int .i64 (u : Int)) (by rw [hMD]; rfl)
       have q1 := hG.own.cell j 1 (by rw [List.length_map]; exact hjm) (by decide) (u := .int .i64 (v : Int)) (by rw [hMD]; rfl)
       rw [Nat.add_zero] at q0
       have HG := hide hG
       have HO := hide hO
       clear hG hO hp hMD hjm hml
       go_upto_region 18 with (fail)
       generalize hV1 : World.alloc wr _ = V1
       have zV1 : V1.heap.size = wr.heap.size + 1 := by rw [← hV1]; simp
       have bV1 : Below wr.heap.size wr V1 := by rw [← hV1]; exact bal wr _
       have bQ : Blk V1 (wr.heap.size) [.int .i64 (u : Int), .int .i64 (v : Int)] 46 := by rw [← hV1]; exact Blk.newA wr _ (by first | rfl | simp)
       have Vb := bV1
       have Vz := zV1
       clear hV1 zV1 bV1
       have hGV := HG.out.later Vb
       have hOV := own_later HO.out Vb
       obtain ⟨a', m', e', -, -, hc⟩ := hOV.ints
       obtain ⟨rfl, -, -⟩ := Value.slice.inj e'
       have htl : (natsO t).length = k := by unfold natsO; rw [List.length_map]; exact HPN.out
       obtain ⟨pb, po, rfl, hcu⟩ := hc u (by omega)
       obtain ⟨pb', po', e9, hcv⟩ := hc v (by omega)
       cases e9
       rw [natsO_at] at hcu hcv
       have z0 := bQ.cell 0 rfl
       have z1 := bQ.cell 1 rfl
       have HGV := hide hGV
       have HOV := hide hOV
       have HBQ := hide bQ
       obtain ⟨tu, htu⟩ : ∃ tu, t.getD u 0 = tu := ⟨_, rfl⟩
       obtain ⟨tv, htv⟩ : ∃ tv, t.getD v 0 = tv := ⟨_, rfl⟩
       rw [htu] at hcu hMF
       rw [htv] at hcv hMF
       clear hGV hOV hc e' htl htu htv Vz Vb bQ q0 q1 HG HO
       refine wp_region_still_tail 10 (by kernel_rfl) (by kernel_rfl) ?_
       simp only [List.take_succ_cons, List.take_zero, List.drop_succ_cons, List.drop_zero]
       repeat (with_reducible refine wpStill_step (fun K hK => ?_) ; go_simp ; with_reducible refine hK _ ?_ ; clear hK K)
       refine wpStill_nil ?_
       change wpList _ _ _ _ _ V1.drew
       have hbd : Below V1.heap.size V1 V1.drew := (Below.refl _ _).drew
       have HG2 := hide (HGV.out.later hbd)
       have HO2 := hide (own_later HOV.out hbd)
       have bQ2 := HBQ.out.later hbd
       have y0 := bQ2.cell 0 rfl
       have y1 := bQ2.cell 1 rfl
       have r1 := HG2.out.bP.cell 1 rfl
       generalize World.drew V1 = V2 at *
       clear hbd bQ2 HGV HOV HBQ z0 z1 hcu hcv
       by_cases hcmp : tv < tu
       ·have hcmpI : (tv : Int) < tu := by omega
        have HMN : Hid (ML.set j ((v : Int), (u : Int)) = MN) := hide (by have h := HMS.out; rw [hMF.out, if_pos hcmp] at h; exact h)
        have hjm : j < (ML.map pairC).length := by
         have h := HG2.out.own.formN
         omega
        have hf0 := HG2.out.own.frozen' (j * 2)
        have hf1 := HG2.out.own.frozen' (j * 2 + 1)
        have hr := HG2.out.own.2 _ (getD_mem (ML.map pairC) j (d := []) hjm)
        obtain ⟨e0, e1, he⟩ : ∃ e0 e1, (ML.map pairC).getD j [] = [e0, e1] := by
         match (ML.map pairC).getD j [], hr with
         | [a, b], _ => exact ⟨a, b, rfl⟩
        have q0 := HG2.out.own.cell j 0 hjm (by decide) (u := e0) (by rw [he]; rfl)
        have q1 := HG2.out.own.cell j 1 hjm (by decide) (u := e1) (by rw [he]; rfl)
        rw [Nat.add_zero] at q0
        have hput := HG2.out.put hjm (.int .i64 (v : Int)) (.int .i64 (u : Int))
        have HPT : Hid (MdG w P w.heap.size k (.slice (some ⟨gq, 0, none⟩) ps.length qc) (MN.map pairC) _) := hide (by
         have h := hput
         rw [show [Value.int .i64 (v : Int), Value.int .i64 (u : Int)] = pairC ((v : Int), (u : Int)) from rfl, pairs_set, HMN.out] at h
         exact h)
        have HOP := hide (HO2.out.eff ((Eff.setCell V2 gq (j * 2) (.int .i64 (v : Int))).trans (Eff.setCell _ gq (j * 2 + 1) (.int .i64 (u : Int)))) (fun g e1 e2 => by
         have e2 : g = gq := e2
         subst e2
         exact own_types HG2.out.own HO2.out (by decide) rfl e1))
        clear hput he hr hcmp
        go_wp2_with fail
        go_roundw
        case rel => exact ⟨j + 1, by have := HJ.out; omega, by go_num, by rw [HMX.out]; exact HPT.out, HOP.out⟩
        case measure => have := HJ.out; simp [intOf]; omega
       ·have hcmpI : ¬ (tv : Int) < tu := by omega
        have HMN : Hid (MN = ML) := hide (HMQ.out (by rw [hMF.out, if_neg hcmp]))
        clear hcmp
        go_wp2_with fail
        go_roundw
        case rel => exact ⟨j + 1, by have := HJ.out; omega, by go_num, by rw [HMX.out, HMN.out]; exact HG2.out, HO2.out⟩
        case measure => have := HJ.out; simp [intOf]; omega
      ·obtain rfl : j = ps.length := by omega
       have hfin : MdG w P w.heap.size k (.slice qa ps.length qc) (MD.map pairC) wr := by
        have h := hG
        rw [mix_full, ← HMD.out] at h
        exact h
       have HF := hide hfin
       have r0 := hfin.bP.cell 0 rfl
       have q0 := hfin.bR.cell 0 rfl
       have q1 := hfin.bR.cell 1 rfl
       have f0 := hfin.bR.frozen 0
       have f1 := hfin.bR.frozen 1
       clear hG hfin hO
       generalize ps.length = m9 at *
       go_wp2_with fail
       have q := (HF.out.bR.set 0 (.int .i64 (k : Nat))).set 1 (.slice qa m9 qc)
       have x0 := q.cell 0 rfl
       have x1 := q.cell 1 rfl
       refine bodyPost_ret (v := orderV (k : Nat) (.slice qa m9 qc)) (by simp [results, Tryd.results12, go_sem, x0, x1]) rfl ?_
       exact ⟨_, rfl, (HF.out.own.setO HF.out.bR (by decide) (j := 0) (.int .i64 (k : Nat))).setO (HF.out.bR.set 0 (.int .i64 (k : Nat))) (by decide) (j := 1) (.slice qa m9 qc), (HF.out.hb.setCell (p := ⟨w.heap.size, 0, none⟩) (Nat.le_refl _) _).setCell (p := ⟨w.heap.size, 1, none⟩) (Nat.le_refl _) _⟩
end Go.Proofs.YtnidcoinfmcffaaDoor
