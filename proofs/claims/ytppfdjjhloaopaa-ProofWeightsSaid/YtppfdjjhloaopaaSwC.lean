/- Plain laws for ProofWeights: weights multiplied, and a step behind. No condition. -/
import Derived.Test.YtppfdjjhloaopaaSwB
import Derived.Test.YtppfdjjhloaopaaPmodD
import Derived.Test.YtppfdjjhloaopaaAppR2
import Derived.Deep.RegionLawGrows
import Derived.Test.YtppfdjjhloaopaaPmodF
/- The walk of Bent of the reference. Conditions: how the arguments lie in memory; sizes; that integers are of 64 bits. -/
namespace Go.Proofs.Ytppfdjjhloaopaa
open Go.RowKit

theorem own_none {W : World} {b0 B k : Nat} {e : TypeId} (h : Blk W b0 [] e) (hB : B ≤ b0) : OwnR W B e k (.slice (some ⟨b0, 0, none⟩) 0 0) [] :=
  ⟨⟨by simp, .inr ⟨b0, 0, #[], rfl, hB, h, Nat.le_refl _, by unfold maxLen; omega, by simp, by simp⟩⟩, fun r hr => by cases hr⟩
theorem wget {ws : List (Int × Int)} (h : 0 < ws.length) : ws.getD 0 (0, 0) ∈ ws := by
  cases ws with
  | nil => simp at h
  | cons x t => simp
theorem wts_get0 {ws : List (Int × Int)} (h : 0 < ws.length) : (ws.map wtCells).getD 0 [] = wtCells (ws.getD 0 (0, 0)) := by
  cases ws with
  | nil => simp at h
  | cons x t => simp
theorem wts_set0 {ws : List (Int × Int)} (h : 0 < ws.length) (u : Int) : (ws.map wtCells).set 0 (((ws.map wtCells).getD 0 []).set 0 (.int .i64 u)) = (ws.set 0 (u, (ws.getD 0 (0, 0)).2)).map wtCells := by
  cases ws with
  | nil => simp at h
  | cons x t => simp [wtCells]
theorem wts_set1 {ws : List (Int × Int)} (h : 0 < ws.length) (u : Int) : (ws.map wtCells).set 0 (((ws.map wtCells).getD 0 []).set 1 (.int .i64 u)) = (ws.set 0 ((ws.getD 0 (0, 0)).1, u)).map wtCells := by
  cases ws with
  | nil => simp at h
  | cons x t => simp [wtCells]
theorem BS.drew {w W : World} {d g c k : Nat} {l : List StepD} {st : StepD} {wv : Value} (h : BS d w W g c k l st wv) : BS d w { W with drawn := W.drawn + 1 } g c k l st wv := h.later (Below.refl _ _).drew
theorem StepsIn.take {c : Rd} {g n m j : Nat} {l : List StepD} (h : StepsIn c (.slice (some ⟨g, 0, none⟩) n m) l) (hj : j ≤ l.length) : StepsIn c (.slice (some ⟨g, 0, none⟩) j m) (l.take j) := by
  obtain ⟨a', n', e, h2, h3, h4⟩ := h
  injection e with e1 e2 e3
  subst e1 e3
  have ht : (l.take j).length = j := by rw [List.length_take]; omega
  refine ⟨some ⟨g, 0, none⟩, m, by rw [ht], by omega, h3, fun k hk => ?_⟩
  rw [ht] at hk
  have e5 : (l.take j).getD k st0 = l.getD k st0 := by simp [List.getD_eq_getElem?_getD, hk]
  rw [e5]
  exact h4 k (by omega)
/-- the copy of the steps alone; the weights of step k are what lies in wv -/
def BT (d : Nat) (w W : World) (g c k : Nat) (l : List StepD) (st : StepD) (wv : Value) : Prop :=
  ∃ L, OwnR W (w.heap.size + d) 54 4 (.slice (some ⟨g, 0, none⟩) l.length c) L ∧ L.length = l.length ∧ L.getD k [] = stepCells st wv ∧
    (∀ i, i < l.length → i ≠ k → ∃ wv, L.getD i [] = stepCells (l.getD i st0) wv ∧ WtsIn w.cell? wv (l.getD i st0).wts) ∧ Below w.heap.size w W
theorem BS.bt {w W : World} {d g c k : Nat} {l : List StepD} {st : StepD} {wv : Value} (h : BS d w W g c k l st wv) : BT d w W g c k l st wv := by
  obtain ⟨L, h1, h2, h3, h4, h5, h6⟩ := h; exact ⟨L, h1, h2, h3, h5, h6⟩
theorem BT.later {w W W' : World} {d g c k : Nat} {l : List StepD} {st : StepD} {wv : Value} (h : BT d w W g c k l st wv) (hb : Below W.heap.size W W') : BT d w W' g c k l st wv := by
  obtain ⟨L, h1, h2, h3, h5, h6⟩ := h
  exact ⟨L, h1.later' hb, h2, h3, h5, below2 h6 hb⟩
theorem OwnR.grownT {W W' : World} {B B' k k' : Nat} {e t : TypeId} {v v' : Value} {L L' : List (List Value)} (h : OwnR W B e k v L) (hO : OwnR W B' t k' v' L') (hte : t ≠ e) (hg : W.grownBy W' v'.ownBlock) : OwnR W' B e k v L := by
  obtain ⟨⟨h1, h2⟩, h3⟩ := h
  refine ⟨⟨h1, h2.imp id ?_⟩, h3⟩
  rintro ⟨g2, cap, cur, e1, e2, e3, e4⟩
  refine ⟨g2, cap, cur, e1, e2, ?_, e4⟩
  have hlt : g2 < W.heap.size := by
    by_cases hl : g2 < W.heap.size
    · exact hl
    · rw [Array.getElem?_eq_none (by omega)] at e3; cases e3
  refine (hg.block g2 hlt ?_).trans e3
  rcases hO.form with ⟨rfl, -⟩ | ⟨g', c', cur', rfl, -, e3', -⟩
  · simp [Value.ownBlock]
  · simp only [Value.ownBlock]
    intro he
    injection he with he
    subst he
    have := e3.symm.trans e3'
    simp at this; exact hte this.2.symm
theorem BT.grown {w W W' : World} {d g c k : Nat} {l : List StepD} {st : StepD} {wv v' : Value} {L' : List (List Value)} (h : BT d w W g c k l st wv) (hO : OwnR W (w.heap.size + d) 56 2 v' L') (hB : w.heap.size + d ≤ W.heap.size) (hg : W.grownBy W' v'.ownBlock) : BT d w W' g c k l st wv := by
  obtain ⟨L, h1, h2, h3, h5, h6⟩ := h
  exact ⟨L, h1.grownT hO (by decide) hg, h2, h3, h5, h6.trans ((below_own hO hB hg).mono (by omega))⟩
theorem BT.cell {w W : World} {d g c k : Nat} {l : List StepD} {st : StepD} {wv : Value} (h : BT d w W g c k l st wv) (hk : k < l.length) : W.cell? ⟨g, k * 4 + 3, none⟩ = some wv := by
  obtain ⟨L, h1, h2, h3, -⟩ := h
  exact h1.cell k 3 (by omega) (by omega) (by rw [h3]; rfl)
theorem BT.frozen {w W : World} {d g c k : Nat} {l : List StepD} {st : StepD} {wv : Value} (h : BT d w W g c k l st wv) (j : Nat) : W.frozen? ⟨g, j, none⟩ = false := by
  obtain ⟨L, h1, h2, -⟩ := h
  rw [← h2] at h1
  exact h1.frozen j
theorem BT.put {w W : World} {d g c k : Nat} {l : List StepD} {st st' : StepD} {wv wv' : Value} (h : BT d w W g c k l st wv) (hk : k < l.length) (hO : OwnR W (w.heap.size + d) 56 2 wv' (st'.wts.map wtCells)) (hs : st'.var = st.var ∧ st'.no = st.no ∧ st'.yes = st.yes) :
    BS d w (W.setCell ⟨g, k * 4 + 3, none⟩ wv') g c k l st' wv' := by
  obtain ⟨L, h1, h2, h3, h5, h6⟩ := h
  have hB : w.heap.size + d ≤ g := by
    rcases h1.form with ⟨e1, -⟩ | ⟨g', c', cur', e1, e2, -⟩
    · cases e1
    · injection e1 with h7 _ _; injection h7 with h7; injection h7 with h7; rw [h7]; omega
  have h1' : OwnR W (w.heap.size + d) 54 4 (.slice (some ⟨g, 0, none⟩) L.length c) L := by rw [h2]; exact h1
  have h7 := h1'.set k 3 (by omega) (by omega) wv'
  refine ⟨_, by rw [h2] at h7; exact h7, by simp [h2], ?_, hO.setT h1 (by decide) wv', fun i hi hik => ?_, h6.setCell (p := ⟨g, k * 4 + 3, none⟩) (by show w.heap.size ≤ g; omega) wv'⟩
  · rw [getD_set_eq' _ (by omega), h3]; unfold stepCells; rw [hs.1, hs.2.1, hs.2.2]; rfl
  · rw [getD_set_ne' _ hik]; exact h5 i hi hik
theorem step_app_t {W : World} {ops : Array Oper} {o : Oper} {T : Array Value} {D : List Deferred} {K : Act → World → Prop} {Q : Exit → Act → World → Prop} {E : Prop} {e t : TypeId} {k by_ : Nat} {z : Value}
    (hinfo : (Try.prog.info? e).map (fun i => (i.zero, i.size, i.bytes)) = some (some z, k, by_)) (hzk : z.cells.size = k) (hk : 0 < k) (hu : Try.prog.underlying t = some (.slice e)) (hgd : o.guard = none) (s x : Operand)
    (ho : o.op = .call { callee := .builtin .append, args := #[s, x], argTypes := #[t, t] }) (B : Nat) (v : Value) (L : List (List Value)) (hs : Act.eval ⟨T, D⟩ s = v) (hown : OwnR W B e k v L)
    (xa : Option Addr) (m c : Nat) (Lx : List (List Value)) (hm : m = Lx.length) (hx : Act.eval ⟨T, D⟩ x = .slice xa m c) (h6 : ∀ r ∈ Lx, r.length = k) (hone : ∀ u ∈ Lx.flatten, u.oneCell' = true)
    (hcells : ∀ b, xa = some b → ∀ j u, Lx.flatten[j]? = some u → W.cell? (b.add j) = some u) (hnone : xa = none → Lx = []) (hlen : (L.length + Lx.length) * by_ ≤ 140737488355328) (hlen2 : L.length + Lx.length < 1000000) (hB : B ≤ W.heap.size)
    (h : ∀ v' w', OwnR w' B e k v' (L ++ Lx) → W.grownBy w' v.ownBlock → K (Act.put ⟨T, D⟩ o.dst v') w') :
    if Region.wanted o (yielded ops T) = true then Oper.wp Try.prog o ⟨T, D⟩ W K Q else E :=
  step_app_recs2 (a := ⟨T, D⟩) hinfo hzk hk hu hgd s x ho B v L hs hown xa m c Lx hm hx h6 hone hcells hnone hlen hlen2 hB h
set_option maxRecDepth 100000 in
set_option maxHeartbeats 4000000 in
theorem bent_any (M : Nat) (l : List StepD) (lv : Value) (z : List Int) (w : World) (hs : StepsIn w.cell? lv l) (hll : l.length ≤ 10000) (hM : M ≤ 1000) (hok : OkL M l) (hz : z.length = 4) (hz64 : ∀ y ∈ z, i64B y) :
    Calls Try.prog 12 #[lv, .agg (z.map (Value.int .i64)).toArray] w (BentQ M l w) := by
  obtain ⟨z0, z1, z2, z3, rfl⟩ : ∃ z0 z1 z2 z3, z = [z0, z1, z2, z3] := by
    match z, hz with
    | [a, b, c, d], _ => exact ⟨_, _, _, _, rfl⟩
  have HP : Hid (∀ (x : Int), x ∈ [z0, z1, z2, z3] → ∀ (n : Int) (W : World), 0 < n → n ≤ 20000 → Calls Try.prog 37 #[.int .i64 x, .int .i64 n] W (fun e w' => e = .returned (.int .i64 (pickF x n)) ∧ w' = W)) :=
    hide fun x hx n W h1 h2 => pickq_any x n W (hz64 x hx).1 (hz64 x hx).2 h1 (by omega)
  obtain ⟨sa, sc, rfl, hsn, hsm, -⟩ := id hs
  obtain ⟨L, hL1, hL2, hL3, hL4, hL5, hL6⟩ := steps_list hs
  have H1 := hide hL1
  have H2 := hide hL2
  have H3 := hide hL3
  have H4 := hide hL4
  have H5 := hide hL5
  have H6 := hide hL6
  have HOK := hide hok
  clear hL1 hL2 hL3 hL4 hL5 hL6 hz64 hz hs hok hsn hsm
  by_cases hl0 : l.length = 0
  · have q0 : ((l.length : Int) == 0) = true := by simp [hl0]
    go_enter Try.func12, Try.ntmps12
    have tok : True := trivial
    go_wp2_with (at_builtin; have _t := tok; generalize hX1 : World.alloc w _ = X1; have bX1 : Below w.heap.size w X1 := (by rw [← hX1]; exact bal w _); have bZ : Blk X1 w.heap.size [.int .i64 z0, .int .i64 z1, .int .i64 z2, .int .i64 z3] 28 := (by rw [← hX1]; exact Blk.newA w _ rfl); have zX1 : X1.heap.size = w.heap.size + 1 := (by rw [← hX1]; simp); generalize hX2 : World.alloc X1 _ = X2; have bX2 : Below X1.heap.size X1 X2 := (by rw [← hX2]; exact bal X1 _); have b0 : Blk X2 X1.heap.size [] 54 := (by rw [← hX2]; exact Blk.newA X1 _ rfl); clear hX1 hX2; refine app_recs infoStep rfl (by decide) Try.underlying30 rfl _ _ rfl (w.heap.size + 1) _ [] (by first | rfl | rw [zX1]; rfl) (own_none b0 (by omega)) sa l.length sc L H1.out.symm rfl H2.out H3.out (fun b hb j u hj => keep (below2 bX1 bX2) (H4.out b hb j u hj)) H5.out (by rw [H1.out]; simp; omega) (by rw [H1.out]; simp; omega) (by have := bX2.size; omega) ?_; intro v3 W3 hO3 hg3; rw [List.nil_append] at hO3; have bZ3 : Blk W3 w.heap.size [.int .i64 z0, .int .i64 z1, .int .i64 z2, .int .i64 z3] 28 := (hg3.block _ (by have := bZ.lt; have := bX2.size; omega) (by simp [Value.ownBlock]; omega)).trans (bZ.later bX2); have hb3 : Below w.heap.size w W3 := below2 bX1 (bX2.grown hg3 bX2.size (fun k hk => by cases hk; exact Nat.le_refl _)); obtain ⟨a3, c3, rfl⟩ := own_form hO3 H1.out; have y0 := bZ3.cell 0 rfl; clear tok bX1 bX2 bZ zX1 b0 hg3)
    have hl' : l = [] := List.eq_nil_of_length_eq_zero hl0
    have hc3 : c3 ≤ 9223372036854775807 := by
      rcases hO3.form with ⟨e1, -⟩ | ⟨g', c', cur', e1, -, -, -, e5⟩
      · injection e1 with _ _ h8; omega
      · injection e1 with _ _ h8; unfold maxLen at e5; omega
    go_ret
    refine ⟨_, [], rfl, ⟨a3, c3, rfl, Nat.zero_le _, hc3, fun k hk => by simp at hk⟩, hb3, Nat.zero_le _, fun h => by omega, fun s hs => by cases hs⟩
  · have q0 : ((l.length : Int) == 0) = false := by simpa using hl0
    go_enter Try.func12, Try.ntmps12
    have tok : True := trivial
    go_wp2_with (at_builtin; have _t := tok; generalize hX1 : World.alloc w _ = X1; have bX1 : Below w.heap.size w X1 := (by rw [← hX1]; exact bal w _); have bZ : Blk X1 w.heap.size [.int .i64 z0, .int .i64 z1, .int .i64 z2, .int .i64 z3] 28 := (by rw [← hX1]; exact Blk.newA w _ rfl); have zX1 : X1.heap.size = w.heap.size + 1 := (by rw [← hX1]; simp); generalize hX2 : World.alloc X1 _ = X2; have bX2 : Below X1.heap.size X1 X2 := (by rw [← hX2]; exact bal X1 _); have b0 : Blk X2 X1.heap.size [] 54 := (by rw [← hX2]; exact Blk.newA X1 _ rfl); clear hX1 hX2; refine app_recs infoStep rfl (by decide) Try.underlying30 rfl _ _ rfl (w.heap.size + 1) _ [] (by first | rfl | rw [zX1]; rfl) (own_none b0 (by omega)) sa l.length sc L H1.out.symm rfl H2.out H3.out (fun b hb j u hj => keep (below2 bX1 bX2) (H4.out b hb j u hj)) H5.out (by rw [H1.out]; simp; omega) (by rw [H1.out]; simp; omega) (by have := bX2.size; omega) ?_; intro v3 W3 hO3 hg3; rw [List.nil_append] at hO3; have bZ3 : Blk W3 w.heap.size [.int .i64 z0, .int .i64 z1, .int .i64 z2, .int .i64 z3] 28 := (hg3.block _ (by have := bZ.lt; have := bX2.size; omega) (by simp [Value.ownBlock]; omega)).trans (bZ.later bX2); have hb3 : Below w.heap.size w W3 := below2 bX1 (bX2.grown hg3 bX2.size (fun k hk => by cases hk; exact Nat.le_refl _)); obtain ⟨a3, c3, rfl⟩ := own_form hO3 H1.out; have y0 := bZ3.cell 0 rfl; clear tok bX1 bX2 bZ zX1 b0 hg3)
    obtain ⟨g, rfl⟩ : ∃ g, a3 = some ⟨g, 0, none⟩ := by
      rcases hO3.form with ⟨-, e2⟩ | ⟨g', c', cur', e1, -⟩
      · have := H1.out; rw [e2] at this; exact absurd this.symm hl0
      · injection e1 with h7 _ _; exact ⟨g', h7⟩
    refine (HP.out z0 (by simp) l.length W3 (by omega) (by omega)).mono ?_
    rintro e w' ⟨rfl, rfl⟩
    obtain ⟨k, hk⟩ : ∃ k : Nat, pickF z0 l.length = (k : Int) := ⟨(pickF z0 l.length).toNat, by have := pickF_nonneg z0 (n := l.length) (by omega); omega⟩
    have hkl : k < l.length := by have := pickF_lt z0 (n := l.length) (by omega); omega
    rw [hk]
    obtain ⟨wv, eL, hWk⟩ := H6.out k hkl
    obtain ⟨wa, wn, rfl, hwc, hwe⟩ := wts_list hWk
    have HWC := hide hwc
    have HWE := hide hwe
    have hst := HOK.out (l.getD k st0) (getD_mem l k hkl)
    have hs3 := hO3.cell k 3 (by rw [H1.out]; exact hkl) (by omega) (by rw [eL]; rfl)
    have hwl : (l.getD k st0).wts.length ≤ 1000 := by omega
    have HST := hide hst
    have HO3 := hide hO3
    have hz1 : w.heap.size + 1 ≤ w'.heap.size := by have := bZ3.lt; omega
    have hgl : g < w'.heap.size := lt_of_cell hs3
    obtain ⟨S, hS⟩ : ∃ S, l.getD k st0 = S := ⟨_, rfl⟩
    rw [hS] at hs3 hwl HWC HWE HST
    have HS := hide hS
    clear hk hwc hwe hst hWk hS eL
    have tok2 : True := trivial
    go_upto_region 6 with (at_builtin; have _t := tok2; generalize hX4 : World.alloc w' _ = W4; have bX4 : Below w'.heap.size w' W4 := (by rw [← hX4]; exact bal w' _); have b1 : Blk W4 w'.heap.size [] 56 := (by rw [← hX4]; exact Blk.newA w' _ rfl); clear hX4; refine app_recs infoWt rfl (by decide) Try.underlying52 rfl _ _ rfl (w.heap.size + 1) _ [] rfl (own_none b1 hz1) wa S.wts.length wn (S.wts.map wtCells) (by simp) rfl (wts_two _).1 (wts_two _).2 (fun b hb j u hj => keep (below2 hb3 bX4) (HWC.out b hb j u hj)) HWE.out (by simp; omega) (by simp; omega) (by have := bX4.size; omega) ?_; intro v5 W5 hO5 hg5; rw [List.nil_append] at hO5; clear tok2; obtain ⟨a5, c5, rfl⟩ := own_form hO5 (n := S.wts.length) (by simp); have hb45 : Below w'.heap.size w' W5 := bX4.grown hg5 bX4.size (fun k hk => by cases hk; exact Nat.le_refl _); have hO35 := HO3.out.later' hb45; have y3 := hO35.cell k 3 (by rw [H1.out]; exact hkl) (by omega) (by rw [(H6.out k hkl).choose_spec.1]; rfl); have f3 := (show OwnR W5 (w.heap.size + 1) 54 4 (.slice (some ⟨g, 0, none⟩) L.length c3) L by rw [H1.out]; exact hO35).frozen (k * 4 + 3))
    have hb5 := below2 hb3 hb45
    have HBS : Hid (BS 1 w (W5.setCell ⟨g, k * 4 + 3, none⟩ (.slice a5 S.wts.length c5)) g c3 k l S (.slice a5 S.wts.length c5)) := hide (by
      have := BS.make hO35 H1.out hkl H6.out (by rw [HS.out]; exact hO5) hb5
      rw [HS.out] at this; exact this)
    have hgw := HBS.out.ne
    have bZ5 := (bZ3.later hb45).other (show w.heap.size ≠ g by omega) (k * 4 + 3) (.slice a5 S.wts.length c5)
    generalize World.setCell W5 ⟨g, k * 4 + 3, none⟩ (.slice a5 S.wts.length c5) = W6 at HBS bZ5 ⊢
    have z0c := bZ5.cell 0 rfl
    have z1c := bZ5.cell 1 rfl
    have z2c := bZ5.cell 2 rfl
    have z3c := bZ5.cell 3 rfl
    clear y0 y3 f3 hO35 hO5 hb45 hb5 hg5 HO3 HWC HWE H2 H3 H4 H5 bZ3 hb3 hO3 hs3 hz1 hgl
    go_wp2_with fail
    refine (HP.out z1 (by simp) 9 W6 (by omega) (by omega)).mono ?_
    rintro e w' ⟨rfl, hw⟩; obtain rfl := hw.symm
    obtain ⟨J, hJ⟩ : ∃ J : Nat, pickF z1 9 = (J : Int) := ⟨(pickF z1 9).toNat, by have := pickF_nonneg z1 (n := 9) (by omega); omega⟩
    have hJ9 : J < 9 := by have := pickF_lt z1 (n := 9) (by omega); omega
    rw [hJ]
    clear hJ
    have y0 : W6.cell? ⟨g, k * 4, none⟩ = some (.int .i64 S.var) := by simpa using HBS.out.cell hkl 0 (by omega) rfl
    have y1 := HBS.out.cell hkl 1 (by omega) rfl
    have y2 := HBS.out.cell hkl 2 (by omega) rfl
    have y3 := HBS.out.cell hkl 3 (by omega) rfl
    have f0 := HBS.out.frozen (k * 4)
    have f1 := HBS.out.frozen (k * 4 + 1)
    have f2 := HBS.out.frozen (k * 4 + 2)
    have hpk : ∀ (n : Int), 0 < n → 0 ≤ pickF z2 n ∧ pickF z2 n < n := fun n h => ⟨pickF_nonneg z2 h, pickF_lt z2 h⟩
    have HPK := hide hpk
    clear hpk
    have hlI : (l.length : Int) ≤ 10000 := by omega
    match J, hJ9 with
    | 0, _ =>
      go_wp2_with fail
      refine (HP.out z2 (by simp) 9 W6 (by omega) (by omega)).mono ?_
      rintro e w' ⟨rfl, hw⟩; obtain rfl := hw.symm
      have hp := HPK.out 9 (by omega)
      generalize pickF z2 9 = p at hp ⊢
      have e1 : IntKind.i64.wrap (p - 1) = p - 1 := IntWalk.i64_in _ ⟨by omega, by omega⟩
      have hfin := HBS.out.put hkl 0 (by omega) (.int .i64 (p - 1)) (st' := ⟨p - 1, S.no, S.yes, S.wts⟩) rfl rfl
      rw [Nat.add_zero] at hfin
      go_wp2_with fail
      go_ret
      exact ⟨_, _, rfl, hfin.steps hkl, hfin.hb, by rw [List.length_set]; exact Nat.le_refl _, fun h => by rw [List.length_set]; exact h, OkL.set HOK.out k (by have := HST.out.1; show S.wts.length ≤ M + 1; omega) HST.out.2⟩
    | 1, _ =>
      go_wp2_with fail
      refine (HP.out z2 (by simp) (l.length + 1) W6 (by omega) (by omega)).mono ?_
      rintro e w' ⟨rfl, hw⟩; obtain rfl := hw.symm
      generalize pickF z2 (l.length + 1) = p
      have hfin := HBS.out.put hkl 1 (by omega) (.int .i64 p) (st' := ⟨S.var, p, S.yes, S.wts⟩) rfl rfl
      go_wp2_with fail
      go_ret
      exact ⟨_, _, rfl, hfin.steps hkl, hfin.hb, by rw [List.length_set]; exact Nat.le_refl _, fun h => by rw [List.length_set]; exact h, OkL.set HOK.out k (by have := HST.out.1; show S.wts.length ≤ M + 1; omega) HST.out.2⟩
    | 2, _ =>
      go_wp2_with fail
      refine (HP.out z2 (by simp) (l.length + 1) W6 (by omega) (by omega)).mono ?_
      rintro e w' ⟨rfl, hw⟩; obtain rfl := hw.symm
      generalize pickF z2 (l.length + 1) = p
      have hfin := HBS.out.put hkl 2 (by omega) (.int .i64 p) (st' := ⟨S.var, S.no, p, S.wts⟩) rfl rfl
      go_wp2_with fail
      go_ret
      exact ⟨_, _, rfl, hfin.steps hkl, hfin.hb, by rw [List.length_set]; exact Nat.le_refl _, fun h => by rw [List.length_set]; exact h, OkL.set HOK.out k (by have := HST.out.1; show S.wts.length ≤ M + 1; omega) HST.out.2⟩
    | 3, _ =>
      by_cases hw0 : 0 < S.wts.length
      · have q3 : decide ((S.wts.length : Int) > 0) = true := decide_eq_true (by omega)
        go_upto_region 15 with fail
        obtain ⟨g5, rfl⟩ : ∃ g5, a5 = some ⟨g5, 0, none⟩ := by
          rcases HBS.out.wts.form with ⟨-, e2⟩ | ⟨g', c', cur', e1, -⟩
          · have h0 := congrArg List.length e2; simp at h0; rw [h0] at hw0; simp at hw0
          · injection e1 with h7 _ _; exact ⟨g', h7⟩
        have y6 := HBS.out.wts.cell 0 0 (by rw [List.length_map]; exact hw0) (by omega) (u := .int .i64 (S.wts.getD 0 (0, 0)).1) (by rw [wts_get0 hw0]; rfl)
        have y7 := HBS.out.wts.cell 0 1 (by rw [List.length_map]; exact hw0) (by omega) (u := .int .i64 (S.wts.getD 0 (0, 0)).2) (by rw [wts_get0 hw0]; rfl)
        have f6 := (show OwnR W6 (w.heap.size + 1) 56 2 (.slice (some ⟨g5, 0, none⟩) (S.wts.map wtCells).length c5) (S.wts.map wtCells) by rw [List.length_map]; exact HBS.out.wts).frozen 0
        have f7 := (show OwnR W6 (w.heap.size + 1) 56 2 (.slice (some ⟨g5, 0, none⟩) (S.wts.map wtCells).length c5) (S.wts.map wtCells) by rw [List.length_map]; exact HBS.out.wts).frozen 1
        simp only [Nat.zero_mul, Nat.zero_add] at y6 y7
        have hw1 : ((0 : Int) < S.wts.length) := by omega
        refine wp_region_still_tail 9 (by kernel_rfl) (by kernel_rfl) ?_
        simp only [List.take_succ_cons, List.take_zero, List.drop_succ_cons, List.drop_zero]
        repeat (with_reducible refine wpStill_step (fun K hK => ?_) ; go_simp ; with_reducible refine hK _ ?_ ; clear hK K)
        with_reducible refine wpStill_step (fun K hK => ?_)
        go_simp
        refine ⟨_, (HP.out z2 (by simp) 9 _ (by omega) (by omega)), ?_⟩
        with_reducible refine hK _ ?_
        clear hK K
        repeat (with_reducible refine wpStill_step (fun K hK => ?_) ; go_simp ; with_reducible refine hK _ ?_ ; clear hK K)
        refine wpStill_nil ?_
        generalize pickF z2 9 = p
        have hfin := HBS.out.drew.putW 0 (by omega) hw0 (.int .i64 p) (st' := ⟨S.var, S.no, S.yes, S.wts.set 0 (p, (S.wts.getD 0 (0, 0)).2)⟩) ⟨rfl, rfl, rfl⟩ (wts_set0 hw0 p)
        go_wp2_with fail
        go_ret
        have h1 : ∀ x : Int × Int, (S.wts.set 0 x).length ≤ M + 1 := fun x => by rw [List.length_set]; have := HST.out.1; omega
        have h2 : ∀ x : Int × Int, (-1 ≤ x.2 ∧ x.2 ≤ 1003) → ∀ q ∈ S.wts.set 0 x, -1 ≤ q.2 ∧ q.2 ≤ 1003 := fun x hx q hq => by
          rcases List.mem_or_eq_of_mem_set hq with h | rfl
          · exact HST.out.2 q h
          · exact hx
        exact ⟨_, _, rfl, hfin.steps hkl, hfin.hb, by rw [List.length_set]; exact Nat.le_refl _, fun h => by rw [List.length_set]; exact h, OkL.set HOK.out k (h1 _) (h2 (p, (S.wts.getD 0 (0, 0)).2) (HST.out.2 (S.wts.getD 0 (0, 0)) (wget hw0)))⟩
      · have q3 : decide ((S.wts.length : Int) > 0) = false := decide_eq_false (by omega)
        have hfin := HBS.out
        go_wp2_with fail
        go_ret
        exact ⟨_, _, rfl, hfin.steps hkl, hfin.hb, by rw [List.length_set]; exact Nat.le_refl _, fun h => by rw [List.length_set]; exact h, OkL.set HOK.out k (by have := HST.out.1; show S.wts.length ≤ M + 1; omega) HST.out.2⟩
    | 4, _ =>
      by_cases hw0 : 0 < S.wts.length
      · have q3 : decide ((S.wts.length : Int) > 0) = true := decide_eq_true (by omega)
        go_upto_region 18 with fail
        obtain ⟨g5, rfl⟩ : ∃ g5, a5 = some ⟨g5, 0, none⟩ := by
          rcases HBS.out.wts.form with ⟨-, e2⟩ | ⟨g', c', cur', e1, -⟩
          · have h0 := congrArg List.length e2; simp at h0; rw [h0] at hw0; simp at hw0
          · injection e1 with h7 _ _; exact ⟨g', h7⟩
        have y6 := HBS.out.wts.cell 0 0 (by rw [List.length_map]; exact hw0) (by omega) (u := .int .i64 (S.wts.getD 0 (0, 0)).1) (by rw [wts_get0 hw0]; rfl)
        have y7 := HBS.out.wts.cell 0 1 (by rw [List.length_map]; exact hw0) (by omega) (u := .int .i64 (S.wts.getD 0 (0, 0)).2) (by rw [wts_get0 hw0]; rfl)
        have f6 := (show OwnR W6 (w.heap.size + 1) 56 2 (.slice (some ⟨g5, 0, none⟩) (S.wts.map wtCells).length c5) (S.wts.map wtCells) by rw [List.length_map]; exact HBS.out.wts).frozen 0
        have f7 := (show OwnR W6 (w.heap.size + 1) 56 2 (.slice (some ⟨g5, 0, none⟩) (S.wts.map wtCells).length c5) (S.wts.map wtCells) by rw [List.length_map]; exact HBS.out.wts).frozen 1
        simp only [Nat.zero_mul, Nat.zero_add] at y6 y7
        have hw1 : ((0 : Int) < S.wts.length) := by omega
        have hp := HPK.out 1003 (by omega)
        refine wp_region_still_tail 10 (by kernel_rfl) (by kernel_rfl) ?_
        simp only [List.take_succ_cons, List.take_zero, List.drop_succ_cons, List.drop_zero]
        repeat (with_reducible refine wpStill_step (fun K hK => ?_) ; go_simp ; with_reducible refine hK _ ?_ ; clear hK K)
        with_reducible refine wpStill_step (fun K hK => ?_)
        go_simp
        refine ⟨_, (HP.out z2 (by simp) 1003 _ (by omega) (by omega)), ?_⟩
        with_reducible refine hK _ ?_
        clear hK K
        repeat (with_reducible refine wpStill_step (fun K hK => ?_) ; go_simp ; with_reducible refine hK _ ?_ ; clear hK K)
        generalize pickF z2 1003 = p at hp ⊢
        have e1 : IntKind.i64.wrap (p - 1) = p - 1 := IntWalk.i64_in _ ⟨by omega, by omega⟩
        repeat (with_reducible refine wpStill_step (fun K hK => ?_) ; go_simp ; with_reducible refine hK _ ?_ ; clear hK K)
        refine wpStill_nil ?_
        have hfin := HBS.out.drew.putW 1 (by omega) hw0 (.int .i64 (p - 1)) (st' := ⟨S.var, S.no, S.yes, S.wts.set 0 ((S.wts.getD 0 (0, 0)).1, p - 1)⟩) ⟨rfl, rfl, rfl⟩ (wts_set1 hw0 (p - 1))
        go_wp2_with fail
        go_ret
        have h1 : ∀ x : Int × Int, (S.wts.set 0 x).length ≤ M + 1 := fun x => by rw [List.length_set]; have := HST.out.1; omega
        have h2 : ∀ x : Int × Int, (-1 ≤ x.2 ∧ x.2 ≤ 1003) → ∀ q ∈ S.wts.set 0 x, -1 ≤ q.2 ∧ q.2 ≤ 1003 := fun x hx q hq => by
          rcases List.mem_or_eq_of_mem_set hq with h | rfl
          · exact HST.out.2 q h
          · exact hx
        exact ⟨_, _, rfl, hfin.steps hkl, hfin.hb, by rw [List.length_set]; exact Nat.le_refl _, fun h => by rw [List.length_set]; exact h, OkL.set HOK.out k (h1 _) (h2 ((S.wts.getD 0 (0, 0)).1, p - 1) ⟨by show -1 ≤ p - 1; omega, by show p - 1 ≤ 1003; omega⟩)⟩
      · have q3 : decide ((S.wts.length : Int) > 0) = false := decide_eq_false (by omega)
        have hfin := HBS.out
        go_wp2_with fail
        go_ret
        exact ⟨_, _, rfl, hfin.steps hkl, hfin.hb, by rw [List.length_set]; exact Nat.le_refl _, fun h => by rw [List.length_set]; exact h, OkL.set HOK.out k (by have := HST.out.1; show S.wts.length ≤ M + 1; omega) HST.out.2⟩
    | 5, _ =>
      go_upto_region 20 with fail
      have hp3 : 0 ≤ pickF z3 5 ∧ pickF z3 5 < 5 := ⟨pickF_nonneg z3 (by omega), pickF_lt z3 (by omega)⟩
      have HP2 := hide (fun W => HP.out z2 (by simp) 10 W (by omega) (by omega))
      have HP3 := hide (fun W => HP.out z3 (by simp) 5 W (by omega) (by omega))
      generalize pickF z2 10 = p at HP2 ⊢
      generalize pickF z3 5 = q at HP3 hp3 ⊢
      have e1 : IntKind.i64.wrap (1 + q) = 1 + q := IntWalk.i64_in _ ⟨by omega, by omega⟩
      have HZ := hide bZ5
      have hsz : w.heap.size + 1 ≤ W6.heap.size := by have := bZ5.lt; omega
      have hwl2 : (S.wts.map wtCells).length ≤ 1000 := by rw [List.length_map]; exact hwl
      clear z0c z1c z2c z3c bZ5 HP y0 y1 y2 y3 f0 f1 f2
      refine wp_region_inv [some 101, some 102, some 103, some 104, some 105, some 106, some 107, some 108, some 109, some 110, some 111, some 112, some 113, some 114, some 115, some 116, some 117, none] (fun L vs W => match vs with | [x0, x1, x2, x3, x4, x5, x6, x7, x8, x9, x10, x11, x12, x13, x14, x15, x16, x17] => (Below (w.heap.size + 1) W6 W ∧ (L 17 = false → BT 1 w W g c3 k l S (.slice a5 S.wts.length c5)) ∧ (L 14 = false → OwnR W (w.heap.size + 1) 56 2 (.slice a5 S.wts.length c5) (S.wts.map wtCells))) ∧ (L 0 = true → x0 = .pointer (some ⟨g, k * 4, none⟩)) ∧ (L 1 = true → x1 = .pointer (some ⟨g, k * 4, none⟩)) ∧ (L 2 = true → x2 = .pointer (some ⟨g, k * 4, none⟩)) ∧ (L 3 = true → x3 = .pointer (some ⟨g, k * 4 + 3, none⟩)) ∧ (L 4 = true → x4 = .slice a5 S.wts.length c5) ∧ (L 5 = true → x5 = .pointer (some ⟨w.heap.size, 2, none⟩)) ∧ (L 6 = true → x6 = .int .i64 z2) ∧ (L 7 = true → x7 = .int .i64 p) ∧ (L 8 = true → x8 = .pointer (some ⟨w.heap.size, 3, none⟩)) ∧ (L 9 = true → x9 = .int .i64 z3) ∧ (L 10 = true → x10 = .int .i64 q) ∧ (L 11 = true → x11 = .int .i64 (1 + q)) ∧ (L 12 = true → x12 = .agg #[.int .i64 p, .int .i64 (1 + q)]) ∧ (L 13 = true → L 14 = false → ∃ b8 : Nat, x13 = .slice (some ⟨b8, 0, none⟩) 1 1 ∧ Blk W b8 (wtCells (p, 1 + q)) 56) ∧ (L 14 = true → (L 4 = true ∧ L 13 = true) ∧ (L 17 = false → OwnR W (w.heap.size + 1) 56 2 x14 (S.wts.map wtCells ++ [wtCells (p, 1 + q)]))) ∧ (L 15 = true → x15 = .pointer (some ⟨g, k * 4, none⟩)) ∧ (L 16 = true → x16 = .pointer (some ⟨g, k * 4 + 3, none⟩)) ∧ (L 17 = true → (L 4 = true ∧ L 14 = true) ∧ ∃ wv, BS 1 w W g c3 k l ⟨S.var, S.no, S.yes, S.wts ++ [(p, 1 + q)]⟩ wv) | _ => False) [_, _, _, _, _, _, _, _, _, _, _, _, _, _, _, _, _, undef] (by kernel_rfl) (by kernel_rfl) rfl (by simp only [puts, Act.put, List.setIfInBounds_toArray, List.set_cons_zero, List.set_cons_succ] <;> rfl) ?_ ?_ ?_
      · exact ⟨⟨(Below.refl _ _).drew, fun _ => HBS.out.drew.bt, fun _ => HBS.out.drew.wts⟩, (fun h => by cases h), (fun h => by cases h), (fun h => by cases h), (fun h => by cases h), (fun h => by cases h), (fun h => by cases h), (fun h => by cases h), (fun h => by cases h), (fun h => by cases h), (fun h => by cases h), (fun h => by cases h), (fun h => by cases h), (fun h => by cases h), (fun h => by cases h), (fun h => by cases h), (fun h => by cases h), (fun h => by cases h), (fun h => by cases h)⟩
      · refine ⟨?_, ?_, ?_, ?_, ?_, ?_, ?_, ?_, ?_, ?_, ?_, ?_, ?_, ?_, ?_, ?_, ?_, ?_, trivial⟩
        · intro L vs W hlen hL hD hI K hK
          obtain ⟨x0, x1, x2, x3, x4, x5, x6, x7, x8, x9, x10, x11, x12, x13, x14, x15, x16, x17, rfl⟩ := len18 hlen
          have hG := hI.1
          replace hI := hI.2
          have f0 := hide hI.1
          replace hI := hI.2
          have f1 := hide hI.1
          replace hI := hI.2
          have f2 := hide hI.1
          replace hI := hI.2
          have f3 := hide hI.1
          replace hI := hI.2
          have f4 := hide hI.1
          replace hI := hI.2
          have f5 := hide hI.1
          replace hI := hI.2
          have f6 := hide hI.1
          replace hI := hI.2
          have f7 := hide hI.1
          replace hI := hI.2
          have f8 := hide hI.1
          replace hI := hI.2
          have f9 := hide hI.1
          replace hI := hI.2
          have f10 := hide hI.1
          replace hI := hI.2
          have f11 := hide hI.1
          replace hI := hI.2
          have f12 := hide hI.1
          replace hI := hI.2
          have f13 := hide hI.1
          replace hI := hI.2
          have f14 := hide hI.1
          replace hI := hI.2
          have f15 := hide hI.1
          replace hI := hI.2
          have f16 := hide hI.1
          replace hI := hI.2
          have f17 := hide hI
          clear hI
          have hGb := hG.1
          have hs1 := Nat.le_trans hsz hGb.size
          have bZW := HZ.out.below hGb (by omega)
          have z2c := bZW.cell 2 rfl
          have z3c := bZW.cell 3 rfl
          try simp only [puts, Act.put, List.setIfInBounds_toArray, List.set_cons_zero, List.set_cons_succ]
          try go_simp
          exact hK.out _ _ _ (by simp only [puts, Act.put, List.setIfInBounds_toArray, List.set_cons_zero, List.set_cons_succ] <;> rfl) ⟨hG, (fun _ => rfl), (fun h => f1.out h), (fun h => f2.out h), (fun h => f3.out h), (fun h => f4.out h), (fun h => f5.out h), (fun h => f6.out h), (fun h => f7.out h), (fun h => f8.out h), (fun h => f9.out h), (fun h => f10.out h), (fun h => f11.out h), (fun h => f12.out h), (fun h => f13.out h), (fun h => f14.out h), (fun h => f15.out h), (fun h => f16.out h), (fun h => f17.out h)⟩
        · intro L vs W hlen hL hD hI K hK
          obtain ⟨x0, x1, x2, x3, x4, x5, x6, x7, x8, x9, x10, x11, x12, x13, x14, x15, x16, x17, rfl⟩ := len18 hlen
          have hG := hI.1
          replace hI := hI.2
          have f0 := hide hI.1
          replace hI := hI.2
          have f1 := hide hI.1
          replace hI := hI.2
          have f2 := hide hI.1
          replace hI := hI.2
          have f3 := hide hI.1
          replace hI := hI.2
          have f4 := hide hI.1
          replace hI := hI.2
          have f5 := hide hI.1
          replace hI := hI.2
          have f6 := hide hI.1
          replace hI := hI.2
          have f7 := hide hI.1
          replace hI := hI.2
          have f8 := hide hI.1
          replace hI := hI.2
          have f9 := hide hI.1
          replace hI := hI.2
          have f10 := hide hI.1
          replace hI := hI.2
          have f11 := hide hI.1
          replace hI := hI.2
          have f12 := hide hI.1
          replace hI := hI.2
          have f13 := hide hI.1
          replace hI := hI.2
          have f14 := hide hI.1
          replace hI := hI.2
          have f15 := hide hI.1
          replace hI := hI.2
          have f16 := hide hI.1
          replace hI := hI.2
          have f17 := hide hI
          clear hI
          have hGb := hG.1
          have hs1 := Nat.le_trans hsz hGb.size
          have bZW := HZ.out.below hGb (by omega)
          have z2c := bZW.cell 2 rfl
          have z3c := bZW.cell 3 rfl
          try simp only [puts, Act.put, List.setIfInBounds_toArray, List.set_cons_zero, List.set_cons_succ]
          try go_simp
          exact hK.out _ _ _ (by simp only [puts, Act.put, List.setIfInBounds_toArray, List.set_cons_zero, List.set_cons_succ] <;> rfl) ⟨hG, (fun h => f0.out h), (fun _ => rfl), (fun h => f2.out h), (fun h => f3.out h), (fun h => f4.out h), (fun h => f5.out h), (fun h => f6.out h), (fun h => f7.out h), (fun h => f8.out h), (fun h => f9.out h), (fun h => f10.out h), (fun h => f11.out h), (fun h => f12.out h), (fun h => f13.out h), (fun h => f14.out h), (fun h => f15.out h), (fun h => f16.out h), (fun h => f17.out h)⟩
        · intro L vs W hlen hL hD hI K hK
          obtain ⟨x0, x1, x2, x3, x4, x5, x6, x7, x8, x9, x10, x11, x12, x13, x14, x15, x16, x17, rfl⟩ := len18 hlen
          have hG := hI.1
          replace hI := hI.2
          have f0 := hide hI.1
          replace hI := hI.2
          have f1 := hide hI.1
          replace hI := hI.2
          have f2 := hide hI.1
          replace hI := hI.2
          have f3 := hide hI.1
          replace hI := hI.2
          have f4 := hide hI.1
          replace hI := hI.2
          have f5 := hide hI.1
          replace hI := hI.2
          have f6 := hide hI.1
          replace hI := hI.2
          have f7 := hide hI.1
          replace hI := hI.2
          have f8 := hide hI.1
          replace hI := hI.2
          have f9 := hide hI.1
          replace hI := hI.2
          have f10 := hide hI.1
          replace hI := hI.2
          have f11 := hide hI.1
          replace hI := hI.2
          have f12 := hide hI.1
          replace hI := hI.2
          have f13 := hide hI.1
          replace hI := hI.2
          have f14 := hide hI.1
          replace hI := hI.2
          have f15 := hide hI.1
          replace hI := hI.2
          have f16 := hide hI.1
          replace hI := hI.2
          have f17 := hide hI
          clear hI
          have hGb := hG.1
          have hs1 := Nat.le_trans hsz hGb.size
          have bZW := HZ.out.below hGb (by omega)
          have z2c := bZW.cell 2 rfl
          have z3c := bZW.cell 3 rfl
          obtain rfl := f1.out (hD.on 1 (by kernel_rfl))
          try simp only [puts, Act.put, List.setIfInBounds_toArray, List.set_cons_zero, List.set_cons_succ]
          try go_simp
          exact hK.out _ _ _ (by simp only [puts, Act.put, List.setIfInBounds_toArray, List.set_cons_zero, List.set_cons_succ] <;> rfl) ⟨hG, (fun h => f0.out h), (fun h => f1.out h), (fun _ => rfl), (fun h => f3.out h), (fun h => f4.out h), (fun h => f5.out h), (fun h => f6.out h), (fun h => f7.out h), (fun h => f8.out h), (fun h => f9.out h), (fun h => f10.out h), (fun h => f11.out h), (fun h => f12.out h), (fun h => f13.out h), (fun h => f14.out h), (fun h => f15.out h), (fun h => f16.out h), (fun h => f17.out h)⟩
        · intro L vs W hlen hL hD hI K hK
          obtain ⟨x0, x1, x2, x3, x4, x5, x6, x7, x8, x9, x10, x11, x12, x13, x14, x15, x16, x17, rfl⟩ := len18 hlen
          have hG := hI.1
          replace hI := hI.2
          have f0 := hide hI.1
          replace hI := hI.2
          have f1 := hide hI.1
          replace hI := hI.2
          have f2 := hide hI.1
          replace hI := hI.2
          have f3 := hide hI.1
          replace hI := hI.2
          have f4 := hide hI.1
          replace hI := hI.2
          have f5 := hide hI.1
          replace hI := hI.2
          have f6 := hide hI.1
          replace hI := hI.2
          have f7 := hide hI.1
          replace hI := hI.2
          have f8 := hide hI.1
          replace hI := hI.2
          have f9 := hide hI.1
          replace hI := hI.2
          have f10 := hide hI.1
          replace hI := hI.2
          have f11 := hide hI.1
          replace hI := hI.2
          have f12 := hide hI.1
          replace hI := hI.2
          have f13 := hide hI.1
          replace hI := hI.2
          have f14 := hide hI.1
          replace hI := hI.2
          have f15 := hide hI.1
          replace hI := hI.2
          have f16 := hide hI.1
          replace hI := hI.2
          have f17 := hide hI
          clear hI
          have hGb := hG.1
          have hs1 := Nat.le_trans hsz hGb.size
          have bZW := HZ.out.below hGb (by omega)
          have z2c := bZW.cell 2 rfl
          have z3c := bZW.cell 3 rfl
          obtain rfl := f2.out (hD.on 2 (by kernel_rfl))
          try simp only [puts, Act.put, List.setIfInBounds_toArray, List.set_cons_zero, List.set_cons_succ]
          try go_simp
          exact hK.out _ _ _ (by simp only [puts, Act.put, List.setIfInBounds_toArray, List.set_cons_zero, List.set_cons_succ] <;> rfl) ⟨hG, (fun h => f0.out h), (fun h => f1.out h), (fun h => f2.out h), (fun _ => rfl), (fun h => f4.out h), (fun h => f5.out h), (fun h => f6.out h), (fun h => f7.out h), (fun h => f8.out h), (fun h => f9.out h), (fun h => f10.out h), (fun h => f11.out h), (fun h => f12.out h), (fun h => f13.out h), (fun h => f14.out h), (fun h => f15.out h), (fun h => f16.out h), (fun h => f17.out h)⟩
        · intro L vs W hlen hL hD hI K hK
          obtain ⟨x0, x1, x2, x3, x4, x5, x6, x7, x8, x9, x10, x11, x12, x13, x14, x15, x16, x17, rfl⟩ := len18 hlen
          have hG := hI.1
          replace hI := hI.2
          have f0 := hide hI.1
          replace hI := hI.2
          have f1 := hide hI.1
          replace hI := hI.2
          have f2 := hide hI.1
          replace hI := hI.2
          have f3 := hide hI.1
          replace hI := hI.2
          have f4 := hide hI.1
          replace hI := hI.2
          have f5 := hide hI.1
          replace hI := hI.2
          have f6 := hide hI.1
          replace hI := hI.2
          have f7 := hide hI.1
          replace hI := hI.2
          have f8 := hide hI.1
          replace hI := hI.2
          have f9 := hide hI.1
          replace hI := hI.2
          have f10 := hide hI.1
          replace hI := hI.2
          have f11 := hide hI.1
          replace hI := hI.2
          have f12 := hide hI.1
          replace hI := hI.2
          have f13 := hide hI.1
          replace hI := hI.2
          have f14 := hide hI.1
          replace hI := hI.2
          have f15 := hide hI.1
          replace hI := hI.2
          have f16 := hide hI.1
          replace hI := hI.2
          have f17 := hide hI
          clear hI
          have hGb := hG.1
          have hs1 := Nat.le_trans hsz hGb.size
          have bZW := HZ.out.below hGb (by omega)
          have z2c := bZW.cell 2 rfl
          have z3c := bZW.cell 3 rfl
          obtain rfl := f3.out (hD.on 3 (by kernel_rfl))
          try simp only [puts, Act.put, List.setIfInBounds_toArray, List.set_cons_zero, List.set_cons_succ]
          have h17 : L 17 = false := Bool.eq_false_iff.2 (fun h => absurd ((f17.out h).1.1.symm.trans hL) (by decide))
          have y3 := (hG.2.1 h17).cell hkl
          go_simp
          exact hK.out _ _ _ (by simp only [puts, Act.put, List.setIfInBounds_toArray, List.set_cons_zero, List.set_cons_succ] <;> rfl) ⟨hG, (fun h => f0.out h), (fun h => f1.out h), (fun h => f2.out h), (fun h => f3.out h), (fun _ => rfl), (fun h => f5.out h), (fun h => f6.out h), (fun h => f7.out h), (fun h => f8.out h), (fun h => f9.out h), (fun h => f10.out h), (fun h => f11.out h), (fun h => f12.out h), (fun h => f13.out h), (fun h => (fun h => ⟨⟨rfl, h.1.2⟩, h.2⟩) (f14.out h)), (fun h => f15.out h), (fun h => f16.out h), (fun h => (fun h => ⟨⟨rfl, h.1.2⟩, h.2⟩) (f17.out h))⟩
        · intro L vs W hlen hL hD hI K hK
          obtain ⟨x0, x1, x2, x3, x4, x5, x6, x7, x8, x9, x10, x11, x12, x13, x14, x15, x16, x17, rfl⟩ := len18 hlen
          have hG := hI.1
          replace hI := hI.2
          have f0 := hide hI.1
          replace hI := hI.2
          have f1 := hide hI.1
          replace hI := hI.2
          have f2 := hide hI.1
          replace hI := hI.2
          have f3 := hide hI.1
          replace hI := hI.2
          have f4 := hide hI.1
          replace hI := hI.2
          have f5 := hide hI.1
          replace hI := hI.2
          have f6 := hide hI.1
          replace hI := hI.2
          have f7 := hide hI.1
          replace hI := hI.2
          have f8 := hide hI.1
          replace hI := hI.2
          have f9 := hide hI.1
          replace hI := hI.2
          have f10 := hide hI.1
          replace hI := hI.2
          have f11 := hide hI.1
          replace hI := hI.2
          have f12 := hide hI.1
          replace hI := hI.2
          have f13 := hide hI.1
          replace hI := hI.2
          have f14 := hide hI.1
          replace hI := hI.2
          have f15 := hide hI.1
          replace hI := hI.2
          have f16 := hide hI.1
          replace hI := hI.2
          have f17 := hide hI
          clear hI
          have hGb := hG.1
          have hs1 := Nat.le_trans hsz hGb.size
          have bZW := HZ.out.below hGb (by omega)
          have z2c := bZW.cell 2 rfl
          have z3c := bZW.cell 3 rfl
          try simp only [puts, Act.put, List.setIfInBounds_toArray, List.set_cons_zero, List.set_cons_succ]
          try go_simp
          exact hK.out _ _ _ (by simp only [puts, Act.put, List.setIfInBounds_toArray, List.set_cons_zero, List.set_cons_succ] <;> rfl) ⟨hG, (fun h => f0.out h), (fun h => f1.out h), (fun h => f2.out h), (fun h => f3.out h), (fun h => f4.out h), (fun _ => rfl), (fun h => f6.out h), (fun h => f7.out h), (fun h => f8.out h), (fun h => f9.out h), (fun h => f10.out h), (fun h => f11.out h), (fun h => f12.out h), (fun h => f13.out h), (fun h => f14.out h), (fun h => f15.out h), (fun h => f16.out h), (fun h => f17.out h)⟩
        · intro L vs W hlen hL hD hI K hK
          obtain ⟨x0, x1, x2, x3, x4, x5, x6, x7, x8, x9, x10, x11, x12, x13, x14, x15, x16, x17, rfl⟩ := len18 hlen
          have hG := hI.1
          replace hI := hI.2
          have f0 := hide hI.1
          replace hI := hI.2
          have f1 := hide hI.1
          replace hI := hI.2
          have f2 := hide hI.1
          replace hI := hI.2
          have f3 := hide hI.1
          replace hI := hI.2
          have f4 := hide hI.1
          replace hI := hI.2
          have f5 := hide hI.1
          replace hI := hI.2
          have f6 := hide hI.1
          replace hI := hI.2
          have f7 := hide hI.1
          replace hI := hI.2
          have f8 := hide hI.1
          replace hI := hI.2
          have f9 := hide hI.1
          replace hI := hI.2
          have f10 := hide hI.1
          replace hI := hI.2
          have f11 := hide hI.1
          replace hI := hI.2
          have f12 := hide hI.1
          replace hI := hI.2
          have f13 := hide hI.1
          replace hI := hI.2
          have f14 := hide hI.1
          replace hI := hI.2
          have f15 := hide hI.1
          replace hI := hI.2
          have f16 := hide hI.1
          replace hI := hI.2
          have f17 := hide hI
          clear hI
          have hGb := hG.1
          have hs1 := Nat.le_trans hsz hGb.size
          have bZW := HZ.out.below hGb (by omega)
          have z2c := bZW.cell 2 rfl
          have z3c := bZW.cell 3 rfl
          obtain rfl := f5.out (hD.on 5 (by kernel_rfl))
          try simp only [puts, Act.put, List.setIfInBounds_toArray, List.set_cons_zero, List.set_cons_succ]
          try go_simp
          exact hK.out _ _ _ (by simp only [puts, Act.put, List.setIfInBounds_toArray, List.set_cons_zero, List.set_cons_succ] <;> rfl) ⟨hG, (fun h => f0.out h), (fun h => f1.out h), (fun h => f2.out h), (fun h => f3.out h), (fun h => f4.out h), (fun h => f5.out h), (fun _ => rfl), (fun h => f7.out h), (fun h => f8.out h), (fun h => f9.out h), (fun h => f10.out h), (fun h => f11.out h), (fun h => f12.out h), (fun h => f13.out h), (fun h => f14.out h), (fun h => f15.out h), (fun h => f16.out h), (fun h => f17.out h)⟩
        · intro L vs W hlen hL hD hI K hK
          obtain ⟨x0, x1, x2, x3, x4, x5, x6, x7, x8, x9, x10, x11, x12, x13, x14, x15, x16, x17, rfl⟩ := len18 hlen
          have hG := hI.1
          replace hI := hI.2
          have f0 := hide hI.1
          replace hI := hI.2
          have f1 := hide hI.1
          replace hI := hI.2
          have f2 := hide hI.1
          replace hI := hI.2
          have f3 := hide hI.1
          replace hI := hI.2
          have f4 := hide hI.1
          replace hI := hI.2
          have f5 := hide hI.1
          replace hI := hI.2
          have f6 := hide hI.1
          replace hI := hI.2
          have f7 := hide hI.1
          replace hI := hI.2
          have f8 := hide hI.1
          replace hI := hI.2
          have f9 := hide hI.1
          replace hI := hI.2
          have f10 := hide hI.1
          replace hI := hI.2
          have f11 := hide hI.1
          replace hI := hI.2
          have f12 := hide hI.1
          replace hI := hI.2
          have f13 := hide hI.1
          replace hI := hI.2
          have f14 := hide hI.1
          replace hI := hI.2
          have f15 := hide hI.1
          replace hI := hI.2
          have f16 := hide hI.1
          replace hI := hI.2
          have f17 := hide hI
          clear hI
          have hGb := hG.1
          have hs1 := Nat.le_trans hsz hGb.size
          have bZW := HZ.out.below hGb (by omega)
          have z2c := bZW.cell 2 rfl
          have z3c := bZW.cell 3 rfl
          obtain rfl := f6.out (hD.on 6 (by kernel_rfl))
          try simp only [puts, Act.put, List.setIfInBounds_toArray, List.set_cons_zero, List.set_cons_succ]
          try go_simp
          refine (HP2.out _).mono ?_
          rintro e W' ⟨rfl, rfl⟩
          try go_simp
          exact hK.out _ _ _ (by simp only [puts, Act.put, List.setIfInBounds_toArray, List.set_cons_zero, List.set_cons_succ] <;> rfl) ⟨hG, (fun h => f0.out h), (fun h => f1.out h), (fun h => f2.out h), (fun h => f3.out h), (fun h => f4.out h), (fun h => f5.out h), (fun h => f6.out h), (fun _ => rfl), (fun h => f8.out h), (fun h => f9.out h), (fun h => f10.out h), (fun h => f11.out h), (fun h => f12.out h), (fun h => f13.out h), (fun h => f14.out h), (fun h => f15.out h), (fun h => f16.out h), (fun h => f17.out h)⟩
        · intro L vs W hlen hL hD hI K hK
          obtain ⟨x0, x1, x2, x3, x4, x5, x6, x7, x8, x9, x10, x11, x12, x13, x14, x15, x16, x17, rfl⟩ := len18 hlen
          have hG := hI.1
          replace hI := hI.2
          have f0 := hide hI.1
          replace hI := hI.2
          have f1 := hide hI.1
          replace hI := hI.2
          have f2 := hide hI.1
          replace hI := hI.2
          have f3 := hide hI.1
          replace hI := hI.2
          have f4 := hide hI.1
          replace hI := hI.2
          have f5 := hide hI.1
          replace hI := hI.2
          have f6 := hide hI.1
          replace hI := hI.2
          have f7 := hide hI.1
          replace hI := hI.2
          have f8 := hide hI.1
          replace hI := hI.2
          have f9 := hide hI.1
          replace hI := hI.2
          have f10 := hide hI.1
          replace hI := hI.2
          have f11 := hide hI.1
          replace hI := hI.2
          have f12 := hide hI.1
          replace hI := hI.2
          have f13 := hide hI.1
          replace hI := hI.2
          have f14 := hide hI.1
          replace hI := hI.2
          have f15 := hide hI.1
          replace hI := hI.2
          have f16 := hide hI.1
          replace hI := hI.2
          have f17 := hide hI
          clear hI
          have hGb := hG.1
          have hs1 := Nat.le_trans hsz hGb.size
          have bZW := HZ.out.below hGb (by omega)
          have z2c := bZW.cell 2 rfl
          have z3c := bZW.cell 3 rfl
          try simp only [puts, Act.put, List.setIfInBounds_toArray, List.set_cons_zero, List.set_cons_succ]
          try go_simp
          exact hK.out _ _ _ (by simp only [puts, Act.put, List.setIfInBounds_toArray, List.set_cons_zero, List.set_cons_succ] <;> rfl) ⟨hG, (fun h => f0.out h), (fun h => f1.out h), (fun h => f2.out h), (fun h => f3.out h), (fun h => f4.out h), (fun h => f5.out h), (fun h => f6.out h), (fun h => f7.out h), (fun _ => rfl), (fun h => f9.out h), (fun h => f10.out h), (fun h => f11.out h), (fun h => f12.out h), (fun h => f13.out h), (fun h => f14.out h), (fun h => f15.out h), (fun h => f16.out h), (fun h => f17.out h)⟩
        · intro L vs W hlen hL hD hI K hK
          obtain ⟨x0, x1, x2, x3, x4, x5, x6, x7, x8, x9, x10, x11, x12, x13, x14, x15, x16, x17, rfl⟩ := len18 hlen
          have hG := hI.1
          replace hI := hI.2
          have f0 := hide hI.1
          replace hI := hI.2
          have f1 := hide hI.1
          replace hI := hI.2
          have f2 := hide hI.1
          replace hI := hI.2
          have f3 := hide hI.1
          replace hI := hI.2
          have f4 := hide hI.1
          replace hI := hI.2
          have f5 := hide hI.1
          replace hI := hI.2
          have f6 := hide hI.1
          replace hI := hI.2
          have f7 := hide hI.1
          replace hI := hI.2
          have f8 := hide hI.1
          replace hI := hI.2
          have f9 := hide hI.1
          replace hI := hI.2
          have f10 := hide hI.1
          replace hI := hI.2
          have f11 := hide hI.1
          replace hI := hI.2
          have f12 := hide hI.1
          replace hI := hI.2
          have f13 := hide hI.1
          replace hI := hI.2
          have f14 := hide hI.1
          replace hI := hI.2
          have f15 := hide hI.1
          replace hI := hI.2
          have f16 := hide hI.1
          replace hI := hI.2
          have f17 := hide hI
          clear hI
          have hGb := hG.1
          have hs1 := Nat.le_trans hsz hGb.size
          have bZW := HZ.out.below hGb (by omega)
          have z2c := bZW.cell 2 rfl
          have z3c := bZW.cell 3 rfl
          obtain rfl := f8.out (hD.on 8 (by kernel_rfl))
          try simp only [puts, Act.put, List.setIfInBounds_toArray, List.set_cons_zero, List.set_cons_succ]
          try go_simp
          exact hK.out _ _ _ (by simp only [puts, Act.put, List.setIfInBounds_toArray, List.set_cons_zero, List.set_cons_succ] <;> rfl) ⟨hG, (fun h => f0.out h), (fun h => f1.out h), (fun h => f2.out h), (fun h => f3.out h), (fun h => f4.out h), (fun h => f5.out h), (fun h => f6.out h), (fun h => f7.out h), (fun h => f8.out h), (fun _ => rfl), (fun h => f10.out h), (fun h => f11.out h), (fun h => f12.out h), (fun h => f13.out h), (fun h => f14.out h), (fun h => f15.out h), (fun h => f16.out h), (fun h => f17.out h)⟩
        · intro L vs W hlen hL hD hI K hK
          obtain ⟨x0, x1, x2, x3, x4, x5, x6, x7, x8, x9, x10, x11, x12, x13, x14, x15, x16, x17, rfl⟩ := len18 hlen
          have hG := hI.1
          replace hI := hI.2
          have f0 := hide hI.1
          replace hI := hI.2
          have f1 := hide hI.1
          replace hI := hI.2
          have f2 := hide hI.1
          replace hI := hI.2
          have f3 := hide hI.1
          replace hI := hI.2
          have f4 := hide hI.1
          replace hI := hI.2
          have f5 := hide hI.1
          replace hI := hI.2
          have f6 := hide hI.1
          replace hI := hI.2
          have f7 := hide hI.1
          replace hI := hI.2
          have f8 := hide hI.1
          replace hI := hI.2
          have f9 := hide hI.1
          replace hI := hI.2
          have f10 := hide hI.1
          replace hI := hI.2
          have f11 := hide hI.1
          replace hI := hI.2
          have f12 := hide hI.1
          replace hI := hI.2
          have f13 := hide hI.1
          replace hI := hI.2
          have f14 := hide hI.1
          replace hI := hI.2
          have f15 := hide hI.1
          replace hI := hI.2
          have f16 := hide hI.1
          replace hI := hI.2
          have f17 := hide hI
          clear hI
          have hGb := hG.1
          have hs1 := Nat.le_trans hsz hGb.size
          have bZW := HZ.out.below hGb (by omega)
          have z2c := bZW.cell 2 rfl
          have z3c := bZW.cell 3 rfl
          obtain rfl := f9.out (hD.on 9 (by kernel_rfl))
          try simp only [puts, Act.put, List.setIfInBounds_toArray, List.set_cons_zero, List.set_cons_succ]
          try go_simp
          refine (HP3.out _).mono ?_
          rintro e W' ⟨rfl, rfl⟩
          try go_simp
          exact hK.out _ _ _ (by simp only [puts, Act.put, List.setIfInBounds_toArray, List.set_cons_zero, List.set_cons_succ] <;> rfl) ⟨hG, (fun h => f0.out h), (fun h => f1.out h), (fun h => f2.out h), (fun h => f3.out h), (fun h => f4.out h), (fun h => f5.out h), (fun h => f6.out h), (fun h => f7.out h), (fun h => f8.out h), (fun h => f9.out h), (fun _ => rfl), (fun h => f11.out h), (fun h => f12.out h), (fun h => f13.out h), (fun h => f14.out h), (fun h => f15.out h), (fun h => f16.out h), (fun h => f17.out h)⟩
        · intro L vs W hlen hL hD hI K hK
          obtain ⟨x0, x1, x2, x3, x4, x5, x6, x7, x8, x9, x10, x11, x12, x13, x14, x15, x16, x17, rfl⟩ := len18 hlen
          have hG := hI.1
          replace hI := hI.2
          have f0 := hide hI.1
          replace hI := hI.2
          have f1 := hide hI.1
          replace hI := hI.2
          have f2 := hide hI.1
          replace hI := hI.2
          have f3 := hide hI.1
          replace hI := hI.2
          have f4 := hide hI.1
          replace hI := hI.2
          have f5 := hide hI.1
          replace hI := hI.2
          have f6 := hide hI.1
          replace hI := hI.2
          have f7 := hide hI.1
          replace hI := hI.2
          have f8 := hide hI.1
          replace hI := hI.2
          have f9 := hide hI.1
          replace hI := hI.2
          have f10 := hide hI.1
          replace hI := hI.2
          have f11 := hide hI.1
          replace hI := hI.2
          have f12 := hide hI.1
          replace hI := hI.2
          have f13 := hide hI.1
          replace hI := hI.2
          have f14 := hide hI.1
          replace hI := hI.2
          have f15 := hide hI.1
          replace hI := hI.2
          have f16 := hide hI.1
          replace hI := hI.2
          have f17 := hide hI
          clear hI
          have hGb := hG.1
          have hs1 := Nat.le_trans hsz hGb.size
          have bZW := HZ.out.below hGb (by omega)
          have z2c := bZW.cell 2 rfl
          have z3c := bZW.cell 3 rfl
          obtain rfl := f10.out (hD.on 10 (by kernel_rfl))
          try simp only [puts, Act.put, List.setIfInBounds_toArray, List.set_cons_zero, List.set_cons_succ]
          try go_simp
          exact hK.out _ _ _ (by simp only [puts, Act.put, List.setIfInBounds_toArray, List.set_cons_zero, List.set_cons_succ] <;> rfl) ⟨hG, (fun h => f0.out h), (fun h => f1.out h), (fun h => f2.out h), (fun h => f3.out h), (fun h => f4.out h), (fun h => f5.out h), (fun h => f6.out h), (fun h => f7.out h), (fun h => f8.out h), (fun h => f9.out h), (fun h => f10.out h), (fun _ => rfl), (fun h => f12.out h), (fun h => f13.out h), (fun h => f14.out h), (fun h => f15.out h), (fun h => f16.out h), (fun h => f17.out h)⟩
        · intro L vs W hlen hL hD hI K hK
          obtain ⟨x0, x1, x2, x3, x4, x5, x6, x7, x8, x9, x10, x11, x12, x13, x14, x15, x16, x17, rfl⟩ := len18 hlen
          have hG := hI.1
          replace hI := hI.2
          have f0 := hide hI.1
          replace hI := hI.2
          have f1 := hide hI.1
          replace hI := hI.2
          have f2 := hide hI.1
          replace hI := hI.2
          have f3 := hide hI.1
          replace hI := hI.2
          have f4 := hide hI.1
          replace hI := hI.2
          have f5 := hide hI.1
          replace hI := hI.2
          have f6 := hide hI.1
          replace hI := hI.2
          have f7 := hide hI.1
          replace hI := hI.2
          have f8 := hide hI.1
          replace hI := hI.2
          have f9 := hide hI.1
          replace hI := hI.2
          have f10 := hide hI.1
          replace hI := hI.2
          have f11 := hide hI.1
          replace hI := hI.2
          have f12 := hide hI.1
          replace hI := hI.2
          have f13 := hide hI.1
          replace hI := hI.2
          have f14 := hide hI.1
          replace hI := hI.2
          have f15 := hide hI.1
          replace hI := hI.2
          have f16 := hide hI.1
          replace hI := hI.2
          have f17 := hide hI
          clear hI
          have hGb := hG.1
          have hs1 := Nat.le_trans hsz hGb.size
          have bZW := HZ.out.below hGb (by omega)
          have z2c := bZW.cell 2 rfl
          have z3c := bZW.cell 3 rfl
          obtain rfl := f7.out (hD.on 7 (by kernel_rfl))
          obtain rfl := f11.out (hD.on 11 (by kernel_rfl))
          try simp only [puts, Act.put, List.setIfInBounds_toArray, List.set_cons_zero, List.set_cons_succ]
          try go_simp
          exact hK.out _ _ _ (by simp only [puts, Act.put, List.setIfInBounds_toArray, List.set_cons_zero, List.set_cons_succ] <;> rfl) ⟨hG, (fun h => f0.out h), (fun h => f1.out h), (fun h => f2.out h), (fun h => f3.out h), (fun h => f4.out h), (fun h => f5.out h), (fun h => f6.out h), (fun h => f7.out h), (fun h => f8.out h), (fun h => f9.out h), (fun h => f10.out h), (fun h => f11.out h), (fun _ => rfl), (fun h => f13.out h), (fun h => f14.out h), (fun h => f15.out h), (fun h => f16.out h), (fun h => f17.out h)⟩
        · intro L vs W hlen hL hD hI K hK
          obtain ⟨x0, x1, x2, x3, x4, x5, x6, x7, x8, x9, x10, x11, x12, x13, x14, x15, x16, x17, rfl⟩ := len18 hlen
          have hG := hI.1
          replace hI := hI.2
          have f0 := hide hI.1
          replace hI := hI.2
          have f1 := hide hI.1
          replace hI := hI.2
          have f2 := hide hI.1
          replace hI := hI.2
          have f3 := hide hI.1
          replace hI := hI.2
          have f4 := hide hI.1
          replace hI := hI.2
          have f5 := hide hI.1
          replace hI := hI.2
          have f6 := hide hI.1
          replace hI := hI.2
          have f7 := hide hI.1
          replace hI := hI.2
          have f8 := hide hI.1
          replace hI := hI.2
          have f9 := hide hI.1
          replace hI := hI.2
          have f10 := hide hI.1
          replace hI := hI.2
          have f11 := hide hI.1
          replace hI := hI.2
          have f12 := hide hI.1
          replace hI := hI.2
          have f13 := hide hI.1
          replace hI := hI.2
          have f14 := hide hI.1
          replace hI := hI.2
          have f15 := hide hI.1
          replace hI := hI.2
          have f16 := hide hI.1
          replace hI := hI.2
          have f17 := hide hI
          clear hI
          have hGb := hG.1
          have hs1 := Nat.le_trans hsz hGb.size
          have bZW := HZ.out.below hGb (by omega)
          have z2c := bZW.cell 2 rfl
          have z3c := bZW.cell 3 rfl
          obtain rfl := f12.out (hD.on 12 (by kernel_rfl))
          try simp only [puts, Act.put, List.setIfInBounds_toArray, List.set_cons_zero, List.set_cons_succ]
          try go_simp
          generalize hW' : World.alloc W _ = W'
          have hb : Below W.heap.size W W' := by rw [← hW']; exact bal W _
          exact hK.out _ _ _ (by simp only [puts, Act.put, List.setIfInBounds_toArray, List.set_cons_zero, List.set_cons_succ] <;> rfl) ⟨⟨hG.1.trans (hb.mono hs1), fun h => (hG.2.1 h).later hb, fun h => (hG.2.2 h).later' hb⟩, (fun h => f0.out h), (fun h => f1.out h), (fun h => f2.out h), (fun h => f3.out h), (fun h => f4.out h), (fun h => f5.out h), (fun h => f6.out h), (fun h => f7.out h), (fun h => f8.out h), (fun h => f9.out h), (fun h => f10.out h), (fun h => f11.out h), (fun h => f12.out h), (fun _ => fun _ => ⟨W.heap.size, rfl, by rw [← hW'] ; exact Blk.newA W _ rfl⟩), (fun h => (fun h => ⟨⟨h.1.1, rfl⟩, fun h17 => (h.2 h17).later' hb⟩) (f14.out h)), (fun h => f15.out h), (fun h => f16.out h), (fun h => (fun h => ⟨h.1, let ⟨v, b⟩ := h.2; ⟨v, b.later hb⟩⟩) (f17.out h))⟩
        · intro L vs W hlen hL hD hI K hK
          obtain ⟨x0, x1, x2, x3, x4, x5, x6, x7, x8, x9, x10, x11, x12, x13, x14, x15, x16, x17, rfl⟩ := len18 hlen
          have hG := hI.1
          replace hI := hI.2
          have f0 := hide hI.1
          replace hI := hI.2
          have f1 := hide hI.1
          replace hI := hI.2
          have f2 := hide hI.1
          replace hI := hI.2
          have f3 := hide hI.1
          replace hI := hI.2
          have f4 := hide hI.1
          replace hI := hI.2
          have f5 := hide hI.1
          replace hI := hI.2
          have f6 := hide hI.1
          replace hI := hI.2
          have f7 := hide hI.1
          replace hI := hI.2
          have f8 := hide hI.1
          replace hI := hI.2
          have f9 := hide hI.1
          replace hI := hI.2
          have f10 := hide hI.1
          replace hI := hI.2
          have f11 := hide hI.1
          replace hI := hI.2
          have f12 := hide hI.1
          replace hI := hI.2
          have f13 := hide hI.1
          replace hI := hI.2
          have f14 := hide hI.1
          replace hI := hI.2
          have f15 := hide hI.1
          replace hI := hI.2
          have f16 := hide hI.1
          replace hI := hI.2
          have f17 := hide hI
          clear hI
          have hGb := hG.1
          have hs1 := Nat.le_trans hsz hGb.size
          have bZW := HZ.out.below hGb (by omega)
          have z2c := bZW.cell 2 rfl
          have z3c := bZW.cell 3 rfl
          obtain rfl := f4.out (hD.on 4 (by kernel_rfl))
          have g13 := f13.out (hD.on 13 (by kernel_rfl))
          try simp only [puts, Act.put, List.setIfInBounds_toArray, List.set_cons_zero, List.set_cons_succ]
          have h17 : L 17 = false := Bool.eq_false_iff.2 (fun h => absurd ((f17.out h).1.2.symm.trans hL) (by decide))
          obtain ⟨b8, rfl, hB8⟩ := g13 hL
          have hO := hG.2.2 hL
          refine step_app_t infoWt rfl (by decide) Try.underlying52 rfl _ _ rfl (w.heap.size + 1) _ (S.wts.map wtCells) rfl hO (some ⟨b8, 0, none⟩) 1 1 [wtCells (p, 1 + q)] rfl rfl (by intro x hx ; rw [List.mem_singleton] at hx ; subst hx ; rfl) (by simp [wtCells, Value.oneCell']) (fun b hb j u hj => by cases hb ; have := hB8.cell j (by simpa using hj) ; cases j <;> simpa [Addr.add] using this) (fun e => by cases e) (by simp only [List.length_singleton] ; omega) (by simp only [List.length_singleton] ; omega) hs1 ?_
          intro v' W' hO2 hg
          have hb := below_own hO hs1 hg
          exact hK.out _ _ _ (by simp only [puts, Act.put, List.setIfInBounds_toArray, List.set_cons_zero, List.set_cons_succ] <;> rfl) ⟨⟨hG.1.trans hb, fun h => (hG.2.1 h).grown hO hs1 hg, fun h => absurd h (by simp)⟩, (fun h => f0.out h), (fun h => f1.out h), (fun h => f2.out h), (fun h => f3.out h), (fun h => f4.out h), (fun h => f5.out h), (fun h => f6.out h), (fun h => f7.out h), (fun h => f8.out h), (fun h => f9.out h), (fun h => f10.out h), (fun h => f11.out h), (fun h => f12.out h), (fun h => (fun _ h => absurd h (by simp)) (f13.out h)), (fun _ => ⟨⟨hD.on 4 (by kernel_rfl), hD.on 13 (by kernel_rfl)⟩, fun _ => hO2⟩), (fun h => f15.out h), (fun h => f16.out h), (fun h => (fun h => absurd (h.1.2.symm.trans hL) (by decide)) (f17.out h))⟩
        · intro L vs W hlen hL hD hI K hK
          obtain ⟨x0, x1, x2, x3, x4, x5, x6, x7, x8, x9, x10, x11, x12, x13, x14, x15, x16, x17, rfl⟩ := len18 hlen
          have hG := hI.1
          replace hI := hI.2
          have f0 := hide hI.1
          replace hI := hI.2
          have f1 := hide hI.1
          replace hI := hI.2
          have f2 := hide hI.1
          replace hI := hI.2
          have f3 := hide hI.1
          replace hI := hI.2
          have f4 := hide hI.1
          replace hI := hI.2
          have f5 := hide hI.1
          replace hI := hI.2
          have f6 := hide hI.1
          replace hI := hI.2
          have f7 := hide hI.1
          replace hI := hI.2
          have f8 := hide hI.1
          replace hI := hI.2
          have f9 := hide hI.1
          replace hI := hI.2
          have f10 := hide hI.1
          replace hI := hI.2
          have f11 := hide hI.1
          replace hI := hI.2
          have f12 := hide hI.1
          replace hI := hI.2
          have f13 := hide hI.1
          replace hI := hI.2
          have f14 := hide hI.1
          replace hI := hI.2
          have f15 := hide hI.1
          replace hI := hI.2
          have f16 := hide hI.1
          replace hI := hI.2
          have f17 := hide hI
          clear hI
          have hGb := hG.1
          have hs1 := Nat.le_trans hsz hGb.size
          have bZW := HZ.out.below hGb (by omega)
          have z2c := bZW.cell 2 rfl
          have z3c := bZW.cell 3 rfl
          obtain rfl := f0.out (hD.on 0 (by kernel_rfl))
          try simp only [puts, Act.put, List.setIfInBounds_toArray, List.set_cons_zero, List.set_cons_succ]
          try go_simp
          exact hK.out _ _ _ (by simp only [puts, Act.put, List.setIfInBounds_toArray, List.set_cons_zero, List.set_cons_succ] <;> rfl) ⟨hG, (fun h => f0.out h), (fun h => f1.out h), (fun h => f2.out h), (fun h => f3.out h), (fun h => f4.out h), (fun h => f5.out h), (fun h => f6.out h), (fun h => f7.out h), (fun h => f8.out h), (fun h => f9.out h), (fun h => f10.out h), (fun h => f11.out h), (fun h => f12.out h), (fun h => f13.out h), (fun h => f14.out h), (fun _ => rfl), (fun h => f16.out h), (fun h => f17.out h)⟩
        · intro L vs W hlen hL hD hI K hK
          obtain ⟨x0, x1, x2, x3, x4, x5, x6, x7, x8, x9, x10, x11, x12, x13, x14, x15, x16, x17, rfl⟩ := len18 hlen
          have hG := hI.1
          replace hI := hI.2
          have f0 := hide hI.1
          replace hI := hI.2
          have f1 := hide hI.1
          replace hI := hI.2
          have f2 := hide hI.1
          replace hI := hI.2
          have f3 := hide hI.1
          replace hI := hI.2
          have f4 := hide hI.1
          replace hI := hI.2
          have f5 := hide hI.1
          replace hI := hI.2
          have f6 := hide hI.1
          replace hI := hI.2
          have f7 := hide hI.1
          replace hI := hI.2
          have f8 := hide hI.1
          replace hI := hI.2
          have f9 := hide hI.1
          replace hI := hI.2
          have f10 := hide hI.1
          replace hI := hI.2
          have f11 := hide hI.1
          replace hI := hI.2
          have f12 := hide hI.1
          replace hI := hI.2
          have f13 := hide hI.1
          replace hI := hI.2
          have f14 := hide hI.1
          replace hI := hI.2
          have f15 := hide hI.1
          replace hI := hI.2
          have f16 := hide hI.1
          replace hI := hI.2
          have f17 := hide hI
          clear hI
          have hGb := hG.1
          have hs1 := Nat.le_trans hsz hGb.size
          have bZW := HZ.out.below hGb (by omega)
          have z2c := bZW.cell 2 rfl
          have z3c := bZW.cell 3 rfl
          obtain rfl := f15.out (hD.on 15 (by kernel_rfl))
          try simp only [puts, Act.put, List.setIfInBounds_toArray, List.set_cons_zero, List.set_cons_succ]
          try go_simp
          exact hK.out _ _ _ (by simp only [puts, Act.put, List.setIfInBounds_toArray, List.set_cons_zero, List.set_cons_succ] <;> rfl) ⟨hG, (fun h => f0.out h), (fun h => f1.out h), (fun h => f2.out h), (fun h => f3.out h), (fun h => f4.out h), (fun h => f5.out h), (fun h => f6.out h), (fun h => f7.out h), (fun h => f8.out h), (fun h => f9.out h), (fun h => f10.out h), (fun h => f11.out h), (fun h => f12.out h), (fun h => f13.out h), (fun h => f14.out h), (fun h => f15.out h), (fun _ => rfl), (fun h => f17.out h)⟩
        · intro L vs W hlen hL hD hI K hK
          obtain ⟨x0, x1, x2, x3, x4, x5, x6, x7, x8, x9, x10, x11, x12, x13, x14, x15, x16, x17, rfl⟩ := len18 hlen
          have hG := hI.1
          replace hI := hI.2
          have f0 := hide hI.1
          replace hI := hI.2
          have f1 := hide hI.1
          replace hI := hI.2
          have f2 := hide hI.1
          replace hI := hI.2
          have f3 := hide hI.1
          replace hI := hI.2
          have f4 := hide hI.1
          replace hI := hI.2
          have f5 := hide hI.1
          replace hI := hI.2
          have f6 := hide hI.1
          replace hI := hI.2
          have f7 := hide hI.1
          replace hI := hI.2
          have f8 := hide hI.1
          replace hI := hI.2
          have f9 := hide hI.1
          replace hI := hI.2
          have f10 := hide hI.1
          replace hI := hI.2
          have f11 := hide hI.1
          replace hI := hI.2
          have f12 := hide hI.1
          replace hI := hI.2
          have f13 := hide hI.1
          replace hI := hI.2
          have f14 := hide hI.1
          replace hI := hI.2
          have f15 := hide hI.1
          replace hI := hI.2
          have f16 := hide hI.1
          replace hI := hI.2
          have f17 := hide hI
          clear hI
          have hGb := hG.1
          have hs1 := Nat.le_trans hsz hGb.size
          have bZW := HZ.out.below hGb (by omega)
          have z2c := bZW.cell 2 rfl
          have z3c := bZW.cell 3 rfl
          have g14 := f14.out (hD.on 14 (by kernel_rfl))
          obtain rfl := f16.out (hD.on 16 (by kernel_rfl))
          try simp only [puts, Act.put, List.setIfInBounds_toArray, List.set_cons_zero, List.set_cons_succ]
          have hO := g14.2 hL
          have hT := hG.2.1 hL
          have y3 := hT.cell hkl
          have fz := hT.frozen (k * 4 + 3)
          obtain ⟨a9, c9, e9⟩ := own_form hO (n := S.wts.length + 1) (by simp)
          subst e9
          go_simp
          have hb := Below.refl W.heap.size W
          exact hK.out _ undef _ (by simp only [puts, Act.put, List.setIfInBounds_toArray, List.set_cons_zero, List.set_cons_succ] <;> rfl) ⟨⟨hG.1.setCell (p := ⟨g, k * 4 + 3, none⟩) (by show w.heap.size + 1 ≤ g ; omega) _, fun h => absurd h (by simp), fun h => absurd (h.symm.trans (hD.on 14 (by kernel_rfl))) (by decide)⟩, (fun h => f0.out h), (fun h => f1.out h), (fun h => f2.out h), (fun h => f3.out h), (fun h => f4.out h), (fun h => f5.out h), (fun h => f6.out h), (fun h => f7.out h), (fun h => f8.out h), (fun h => f9.out h), (fun h => f10.out h), (fun h => f11.out h), (fun h => f12.out h), (fun h => (fun _ h => absurd (h.symm.trans (hD.on 14 (by kernel_rfl))) (by decide)) (f13.out h)), (fun h => (fun h => ⟨h.1, fun h17 => absurd h17 (by simp)⟩) (f14.out h)), (fun h => f15.out h), (fun h => f16.out h), (fun _ => ⟨⟨g14.1.1, hD.on 14 (by kernel_rfl)⟩, _, hT.put hkl (by simpa using hO) ⟨rfl, rfl, rfl⟩⟩)⟩
      intro L vs W hlen hall hI
      obtain ⟨x0, x1, x2, x3, x4, x5, x6, x7, x8, x9, x10, x11, x12, x13, x14, x15, x16, x17, rfl⟩ := len18 hlen
      have hG := hI.1
      replace hI := hI.2
      have f0 := hide hI.1
      replace hI := hI.2
      have f1 := hide hI.1
      replace hI := hI.2
      have f2 := hide hI.1
      replace hI := hI.2
      have f3 := hide hI.1
      replace hI := hI.2
      have f4 := hide hI.1
      replace hI := hI.2
      have f5 := hide hI.1
      replace hI := hI.2
      have f6 := hide hI.1
      replace hI := hI.2
      have f7 := hide hI.1
      replace hI := hI.2
      have f8 := hide hI.1
      replace hI := hI.2
      have f9 := hide hI.1
      replace hI := hI.2
      have f10 := hide hI.1
      replace hI := hI.2
      have f11 := hide hI.1
      replace hI := hI.2
      have f12 := hide hI.1
      replace hI := hI.2
      have f13 := hide hI.1
      replace hI := hI.2
      have f14 := hide hI.1
      replace hI := hI.2
      have f15 := hide hI.1
      replace hI := hI.2
      have f16 := hide hI.1
      replace hI := hI.2
      have f17 := hide hI
      clear hI
      obtain rfl := f0.out (hall 0 (by decide))
      obtain rfl := f1.out (hall 1 (by decide))
      obtain rfl := f2.out (hall 2 (by decide))
      obtain rfl := f3.out (hall 3 (by decide))
      obtain rfl := f4.out (hall 4 (by decide))
      obtain rfl := f5.out (hall 5 (by decide))
      obtain rfl := f6.out (hall 6 (by decide))
      obtain rfl := f7.out (hall 7 (by decide))
      obtain rfl := f8.out (hall 8 (by decide))
      obtain rfl := f9.out (hall 9 (by decide))
      obtain rfl := f10.out (hall 10 (by decide))
      obtain rfl := f11.out (hall 11 (by decide))
      obtain rfl := f12.out (hall 12 (by decide))
      have g13 := f13.out (hall 13 (by decide))
      have g14 := f14.out (hall 14 (by decide))
      obtain rfl := f15.out (hall 15 (by decide))
      obtain rfl := f16.out (hall 16 (by decide))
      have g17 := f17.out (hall 17 (by decide))
      have hal := hide hall
      clear hall f0 f1 f2 f3 f4 f5 f6 f7 f8 f9 f10 f11 f12 f13 f14 f15 f16 f17
      try simp only [puts, Act.put, List.setIfInBounds_toArray, List.set_cons_zero, List.set_cons_succ]
      obtain ⟨-, wv9, hfin⟩ := g17
      clear g14 g13 hG
      go_wp2_with fail
      go_ret
      exact ⟨_, _, rfl, hfin.steps hkl, hfin.hb, by rw [List.length_set]; exact Nat.le_refl _, fun h => by rw [List.length_set]; exact h, OkL.set HOK.out k (by have := HST.out.1; show (S.wts ++ [(p, 1 + q)]).length ≤ M + 1; simp; omega) (fun x hx => by
        have hx' : x ∈ S.wts ++ [(p, 1 + q)] := hx
        rcases List.mem_append.1 hx' with h | h
        · exact HST.out.2 x h
        · rw [List.mem_singleton] at h; subst h; exact ⟨by show -1 ≤ 1 + q; omega, by show 1 + q ≤ 1003; omega⟩)⟩
    | 6, _ =>
      go_wp2_with fail
      refine (HP.out z2 (by simp) l.length W6 (by omega) (by omega)).mono ?_
      rintro e w' ⟨rfl, hw⟩; obtain rfl := hw.symm
      have hp := HPK.out l.length (by omega)
      obtain ⟨p, hpp⟩ : ∃ p : Nat, pickF z2 l.length = (p : Int) := ⟨(pickF z2 l.length).toNat, by omega⟩
      rw [hpp] at hp ⊢
      have hpl : p < l.length := by omega
      have e1 : IntKind.i64.wrap ((p : Int) + 1) = p + 1 := IntWalk.i64_in _ ⟨by omega, by omega⟩
      have hc3 : l.length ≤ c3 ∧ c3 ≤ 9223372036854775807 := by
        obtain ⟨a', c', e, h1, h2, -⟩ := HBS.out.steps hkl
        injection e with e1 e2 e3
        rw [List.length_set] at h1
        exact ⟨by omega, by omega⟩
      go_wp2_with fail
      go_ret
      exact ⟨_, _, rfl, (HBS.out.steps hkl).take (by rw [List.length_set]; omega), HBS.out.hb, by rw [List.length_take, List.length_set]; omega, fun h => by rw [List.length_take, List.length_set]; omega, fun s hs => OkL.set HOK.out k (by have := HST.out.1; omega) HST.out.2 s (List.mem_of_mem_take hs)⟩
    | 7, _ =>
      have hf1 := HBS.out.drew.put hkl 1 (by omega) (.int .i64 S.yes) (st' := ⟨S.var, S.yes, S.yes, S.wts⟩) rfl rfl
      have hfin := hf1.put hkl 2 (by omega) (.int .i64 S.no) (st' := ⟨S.var, S.yes, S.no, S.wts⟩) rfl rfl
      go_wp2_with fail
      go_region
      go_wp2_with fail
      go_ret
      exact ⟨_, _, rfl, hfin.steps hkl, hfin.hb, by rw [List.length_set]; exact Nat.le_refl _, fun h => by rw [List.length_set]; exact h, OkL.set HOK.out k (by have := HST.out.1; show S.wts.length ≤ M + 1; omega) HST.out.2⟩
    | 8, _ =>
      have hfin := HBS.out
      go_wp2_with fail
      go_ret
      exact ⟨_, _, rfl, hfin.steps hkl, hfin.hb, by rw [List.length_set]; exact Nat.le_refl _, fun h => by rw [List.length_set]; exact h, OkL.set HOK.out k (by have := HST.out.1; show S.wts.length ≤ M + 1; omega) HST.out.2⟩
end Go.Proofs.Ytppfdjjhloaopaa
/- Plain laws on what check finds: it is -1 just where the proof refutes; what that says of all choices. No condition. -/
namespace Go.Proofs.Ytppfdjjhloaopaa
open Go.RowKit

theorem check_iff {p : ProgD} {rows : List RowD} {l : List StepD} (hV : validB p = true) (hl : l.length ≤ 8192) (h0 : 0 < l.length) {F : Nat} (hF : l.length ≤ F) :
    decide (checkF p rows l = -1) = refutesF rows l F 0 (decF p.vars.toNat 0 0) := by
  have e : checkF p rows l = wrongF rows l l.length 0 (List.replicate p.vars.toNat (-1)) := by
    unfold checkF; rw [hV, if_pos (by simp [hl]), if_neg (by omega)]
  rw [e, wrongF_fuel rows l l.length F 0 _ h0 (by omega) (by omega), ← decF_open]
  have := wrong_refutes rows l F 0 (decF p.vars.toNat 0 0) h0
  rw [show ((0 : Nat) : Int) = 0 from rfl] at this
  rw [this]
theorem check_parts {p : ProgD} {rows : List RowD} {l : List StepD} (h : checkF p rows l = -1) : validB p = true ∧ l.length ≤ 8192 ∧ 0 < l.length := by
  unfold checkF at h
  cases hV : validB p
  · rw [hV] at h; simp at h
  · rw [hV] at h
    by_cases hl : l.length ≤ 8192
    · refine ⟨rfl, hl, ?_⟩
      simp only [hl, decide_true, Bool.and_self, if_true] at h
      by_cases h0 : l.length = 0
      · rw [if_pos h0] at h; omega
      · omega
    · simp [hl] at h
theorem fits_none (n s : Nat) : Fits (decF n 0 0) s := fun k hk => by
  rw [decF_len] at hk
  rw [decF_get hk, if_neg (by omega)]; exact Or.inl (by decide)
theorem check_sound {p : ProgD} {rows : List RowD} {l : List StepD} (h : checkF p rows l = -1) (hr : ∀ r ∈ rows, r.coef.length = p.vars.toNat) (s : Nat) : ¬ (∀ r ∈ rows, keptB r s = true) := fun hk => by
  obtain ⟨hV, hl, h0⟩ := check_parts h
  have h1 := check_iff (rows := rows) hV hl h0 (Nat.le_refl _)
  rw [h, refutes_sound rows l p.vars.toNat s (fun r hr' => ⟨hr r hr', hk r hr'⟩) _ 0 _ (decF_len _ _ _) (fits_none _ _)] at h1
  simp at h1
theorem ref_sound {p : ProgD} {l : List StepD} (h : refB p l = true) (s : Nat) : keptAll p.rows s = false := by
  have h1 : wrongP p l = -1 := by unfold refB at h; simpa using h
  rw [← Bool.not_eq_true]
  intro hk
  exact check_sound h1 (rows_len (check_parts h1).1) s (fun r hr => List.all_eq_true.1 hk r hr)
theorem bounds_sound {p : ProgD} {l : List StepD} {g : Int} (h : boundsB p l g = true) (s : Nat) (hk : keptAll p.rows s = true) : chosenF p.gain s ≤ g := by
  unfold boundsB at h
  simp only [Bool.and_eq_true, decide_eq_true_eq] at h
  refine Decidable.byContradiction fun hn => ?_
  refine check_sound h.2 (with_len (check_parts h.2).1 g) s (fun r hr => ?_)
  rcases List.mem_append.1 hr with h1 | h1
  · exact List.all_eq_true.1 hk r h1
  · simp at h1; rw [h1]
    simp only [keptB, decide_eq_true_eq]
    show chosenF (p.gain.map fun x => -x) _ ≤ -(g + 1)
    rw [chosenF_neg]; omega
theorem proof_some (p : ProgD) : 0 < (growF (rowsF p) p.vars.toNat 0 0 0).length := by have := (growF_len (rowsF p) p.vars.toNat 0 0 0).1; omega
/-- the plain proof of a program holds -/
theorem own_check {p : ProgD} (hV : validB p = true) : checkF p (rowsF p) (solveF p).proof = -1 := by
  rw [solve_proof hV]
  have h := check_iff (rows := rowsF p) hV (proof_short hV) (proof_some p) (F := (growF (rowsF p) p.vars.toNat 0 0 0).length + p.vars.toNat + 1) (by omega)
  rw [proof_refutes hV _ (by omega)] at h
  simpa using h
theorem own_refutes {p : ProgD} (hV : validB p = true) (hf : (bestF p).found = false) : wrongP p (solveF p).proof = -1 ∧ refB p (solveF p).proof = true := by
  have h := own_check hV
  rw [rowsF_none hf] at h
  exact ⟨h, by unfold refB wrongP; rw [h]; rfl⟩
theorem own_bounds {p : ProgD} (hV : validB p = true) (hf : (bestF p).found = true) : boundsB p (solveF p).proof (bestF p).gain = true := by
  have h := own_check hV
  rw [rowsF_found hf] at h
  have hb := best_bd hV
  unfold boundsB
  rw [h]; simp [isInB, hb]
theorem best_kept {p : ProgD} (hV : validB p = true) (hf : (bestF p).found = true) : keptAll p.rows (bestF p).set = true ∧ (bestF p).gain = chosenF p.gain (bestF p).set := by
  obtain ⟨v0, -⟩ := valid_parts hV
  obtain ⟨-, h, h2, -⟩ := (bestF_spec (p := p) (n := p.vars.toNat) (by omega)).2 hf
  exact ⟨h, h2⟩
theorem lesser_not {p : ProgD} (hV : validB p = true) (hf : (bestF p).found = true) (l : List StepD) {g : Int} (hg : g < (bestF p).gain) : boundsB p l g = false := by
  rw [← Bool.not_eq_true]
  intro h
  obtain ⟨h1, h2⟩ := best_kept hV hf
  have := bounds_sound h _ h1
  omega
theorem found_not {p : ProgD} (hV : validB p = true) (hf : (bestF p).found = true) (l : List StepD) : refB p l = false := by
  rw [← Bool.not_eq_true]
  intro h
  have := ref_sound h (bestF p).set
  rw [(best_kept hV hf).1] at this; cases this
end Go.Proofs.Ytppfdjjhloaopaa
/- Plain facts for ProofSound: the plain proof has few weights; what Refutes and Bounds say of all choices that keep the rows. No condition. -/
namespace Go.Proofs.Ytppfdjjhloaopaa
open Go.RowKit

theorem grow_ok (rows : List RowD) : ∀ f d s k, OkL 1 (growF rows f d s k)
  | 0, d, s, _ => fun x hx => by
    simp only [growF, List.mem_singleton] at hx
    subst hx
    exact ⟨by simp [leafF], fun p hp => by simp [leafF] at hp; subst hp; simp⟩
  | f + 1, d, s, k => fun x hx => by
    simp only [growF] at hx
    split at hx
    · rw [List.mem_singleton] at hx
      subst hx
      exact ⟨by simp [leafF], fun p hp => by simp [leafF] at hp; subst hp; simp⟩
    · rw [List.mem_cons, List.mem_append] at hx
      rcases hx with rfl | h | h
      · exact ⟨by simp [nodeF], fun p hp => by simp [nodeF] at hp⟩
      · exact grow_ok rows f _ _ _ x h
      · exact grow_ok rows f _ _ _ x h
theorem proof_ok {p : ProgD} (hV : validB p = true) : OkL 1 (solveF p).proof ∧ (solveF p).proof.length ≤ 8192 ∧ 0 < (solveF p).proof.length := by
  rw [solve_proof hV]
  exact ⟨grow_ok _ _ _ _ _, proof_short hV, proof_some p⟩
theorem allF_kept {p : ProgD} (hV : validB p = true) {i : Nat} (hi : i < (allF p).length) : ∃ s : Nat, (allF p).getD i 0 = (s : Int) ∧ keptAll p.rows s = true ∧ gainF p s = chosenF p.gain s := by
  have hall : allF p = (goodF p).map fun (s : Nat) => (s : Int) := by unfold allF; rw [if_pos hV]
  rw [hall, List.length_map] at hi
  obtain ⟨v0, v12, -⟩ := valid_parts hV
  have hm : (goodF p).getD i 0 ∈ goodF p := getD_mem _ _ hi
  have hm' := hm
  unfold goodF goodUp at hm'
  rw [List.mem_filter, List.mem_range] at hm'
  refine ⟨(goodF p).getD i 0, ?_, hm'.2, ?_⟩
  · rw [hall]; simp [List.getD_eq_getElem?_getD, hi]
  · unfold gainF
    rw [if_pos, Int.toNat_natCast]
    unfold choiceB
    have h1 : (((goodF p).getD i 0 : Nat) : Int) < ((2 ^ p.vars.toNat : Nat) : Int) := Int.ofNat_lt.2 hm'.1
    rw [Int.natCast_pow] at h1
    rw [hV, Bool.true_and]
    simp only [isInB, decide_eq_true_eq]
    exact ⟨Int.natCast_nonneg _, Int.le_sub_one_of_lt h1⟩
theorem ref_none {p : ProgD} (hV : validB p = true) {l : List StepD} (h : refB p l = true) : (allF p).length = 0 := by
  rcases Nat.eq_zero_or_pos (allF p).length with h0 | h0
  · exact h0
  · obtain ⟨s, -, hk, -⟩ := allF_kept hV h0
    rw [ref_sound h s] at hk; cases hk
theorem bnd_gain {p : ProgD} (hV : validB p = true) {l : List StepD} {g : Int} (h : boundsB p l g = true) {i : Nat} (hi : i < (allF p).length) : gainF p ((allF p).getD i 0) ≤ g := by
  obtain ⟨s, e, hk, hg⟩ := allF_kept hV hi
  rw [e, hg]
  exact bounds_sound h s hk
end Go.Proofs.Ytppfdjjhloaopaa
namespace Go.Proofs.Ytppfdjjhloaopaa
open Go.RowKit

theorem check_scale {p : ProgD} {rows : List RowD} {l : List StepD} (k : Nat) {n : Int} (hV : validB p = true) (hl : l.length ≤ 8192) (h0 : 0 < l.length) (hn : 1 ≤ n) (hw : ∀ w ∈ (l.getD k st0).wts, 1 ≤ w.2 ∧ w.2 * n ≤ 1000) :
    decide (checkF p rows (l.set k (scaleSt (l.getD k st0) n)) = -1) = decide (checkF p rows l = -1) := by
  rw [check_iff (rows := rows) hV hl h0 (Nat.le_refl _), check_iff (rows := rows) (l := l.set k (scaleSt (l.getD k st0) n)) (F := l.length) hV (by rw [List.length_set]; exact hl) (by rw [List.length_set]; exact h0) (by rw [List.length_set]; exact Nat.le_refl _), refutes_scale rows l k hn hw]
theorem bounds_scale {p : ProgD} {l : List StepD} (k : Nat) {n : Int} (hV : validB p = true) (hl : l.length ≤ 8192) (h0 : 0 < l.length) (hn : 1 ≤ n) (hw : ∀ w ∈ (l.getD k st0).wts, 1 ≤ w.2 ∧ w.2 * n ≤ 1000) (g : Int) :
    boundsB p (l.set k (scaleSt (l.getD k st0) n)) g = boundsB p l g := by
  unfold boundsB; rw [check_scale k hV hl h0 hn hw]
theorem ref_scale {p : ProgD} {l : List StepD} (k : Nat) {n : Int} (hV : validB p = true) (hl : l.length ≤ 8192) (h0 : 0 < l.length) (hn : 1 ≤ n) (hw : ∀ w ∈ (l.getD k st0).wts, 1 ≤ w.2 ∧ w.2 * n ≤ 1000) :
    refB p (l.set k (scaleSt (l.getD k st0) n)) = refB p l := by
  unfold refB wrongP; exact check_scale k hV hl h0 hn hw
/-- whether the first k steps lead to steps of the list alone -/
def wholeK (l : List StepD) : Nat → Bool
  | 0 => true
  | k + 1 => wholeK l k && decide ((l.getD k st0).no < (l.length : Int)) && decide ((l.getD k st0).yes < (l.length : Int))
theorem wholeK_at {l : List StepD} : ∀ {k i : Nat}, wholeK l k = true → i < k → (l.getD i st0).no < (l.length : Int) ∧ (l.getD i st0).yes < (l.length : Int)
  | 0, _, _, h => by omega
  | k + 1, i, h, hi => by
    simp only [wholeK, Bool.and_eq_true, decide_eq_true_eq] at h
    by_cases e : i = k
    · subst e; exact ⟨h.1.2, h.2⟩
    · exact wholeK_at h.1.1 (by omega)
theorem check_behind {p : ProgD} {rows : List RowD} {l : List StepD} (x : StepD) (hl : l.length ≤ 8191) (h0 : 0 < l.length) (hw : wholeK l l.length = true) : checkF p rows (l ++ [x]) = checkF p rows l := by
  unfold checkF
  cases validB p
  · simp
  · have e1 : (l ++ [x]).length = l.length + 1 := by simp
    have e2 : decide ((l ++ [x]).length ≤ 8192) = true := decide_eq_true (by rw [e1]; omega)
    have e3 : decide (l.length ≤ 8192) = true := decide_eq_true (by omega)
    have e4 : wrongF rows (l ++ [x]) (l ++ [x]).length 0 (List.replicate p.vars.toNat (-1)) = wrongF rows l l.length 0 (List.replicate p.vars.toNat (-1)) := by
      rw [wrong_behind rows l x (fun i hi => wholeK_at hw hi) _ _ _ h0]
      exact wrongF_fuel rows l _ _ 0 _ h0 (by omega) (by omega)
    rw [e2, e3, e4, if_neg (show ¬ (l ++ [x]).length = 0 by omega), if_neg (show ¬ l.length = 0 by omega)]
theorem bounds_behind {p : ProgD} {l : List StepD} (x : StepD) (hl : l.length ≤ 8191) (h0 : 0 < l.length) (hw : wholeK l l.length = true) (g : Int) : boundsB p (l ++ [x]) g = boundsB p l g := by
  unfold boundsB; rw [check_behind x hl h0 hw]
theorem wrong_more {p : ProgD} {l : List StepD} (x : StepD) (hl : l.length ≤ 8191) (h0 : 0 < l.length) (hw : wholeK l l.length = true) : wrongP p (l ++ [x]) = wrongP p l := check_behind x hl h0 hw
theorem proof_ok2 {p : ProgD} (hV : validB p = true) : (solveF p).proof.length ≤ 8191 := by
  rw [solve_proof hV]
  have h1 := (growF_len (rowsF p) p.vars.toNat 0 0 0).2
  obtain ⟨v0, v12, -⟩ := valid_parts hV
  have h2 : 2 ^ (p.vars.toNat + 1) ≤ 2 ^ 13 := Nat.pow_le_pow_right (by decide) (by omega)
  omega
theorem mul_range {t n : Int} (h1 : -1 ≤ t) (h2 : t ≤ 1003) (h3 : 1 ≤ n) (h4 : n ≤ 100) : -100 ≤ t * n ∧ t * n ≤ 100300 := by
  have a1 : t * n ≤ 1003 * n := Int.mul_le_mul_of_nonneg_right h2 (by omega)
  have a2 : (-1) * n ≤ t * n := Int.mul_le_mul_of_nonneg_right h1 (by omega)
  omega
theorem take_scale {ws : List (Int × Int)} {n : Int} {q : Nat} (hq : q < ws.length) : (scaleW ws n).take (q + 1) = (scaleW ws n).take q ++ [((ws.getD q (0, 0)).1, (ws.getD q (0, 0)).2 * n)] := by
  have hl : q < (scaleW ws n).length := by rw [scale_len]; exact hq
  rw [List.take_succ_eq_append_getElem hl]
  congr 2
  have := scale_get ws n q
  rw [List.getD_eq_getElem?_getD, List.getElem?_eq_getElem hl] at this
  exact this
theorem take_all {ws : List (Int × Int)} {n : Int} : (scaleW ws n).take ws.length = scaleW ws n := List.take_of_length_le (by rw [scale_len]; exact Nat.le_refl _)
theorem all_wts {ws : List (Int × Int)} {P : Int × Int → Prop} (h : ∀ i, i < ws.length → P (ws.getD i (0, 0))) : ∀ w ∈ ws, P w := fun w hw => by
  obtain ⟨i, hi, rfl⟩ := List.getElem_of_mem hw
  have := h i hi
  rwa [List.getD_eq_getElem?_getD, List.getElem?_eq_getElem hi] at this
/-- a slice of a call's own that holds the cells of steps -/
theorem own_steps {W : World} {B : Nat} {v : Value} {L : List (List Value)} {l : List StepD} (h : OwnR W B 54 4 v L) (hl : L.length = l.length) (hc : ∀ i, i < l.length → ∃ wv, L.getD i [] = stepCells (l.getD i st0) wv ∧ WtsIn W.cell? wv (l.getD i st0).wts) : StepsIn W.cell? v l := by
  rcases h.form with ⟨rfl, e2⟩ | ⟨g, c, cur, rfl, e1, e3, e4, e5⟩
  · rw [e2] at hl
    have : l = [] := List.eq_nil_of_length_eq_zero hl.symm
    subst this
    exact StepsIn.nil _
  · refine ⟨some ⟨g, 0, none⟩, c, by rw [hl], by omega, by unfold maxLen at e5; omega, fun i hi => ?_⟩
    obtain ⟨wv', e, hW⟩ := hc i hi
    have hcl : ∀ (j : Nat) (u : Value), j < 4 → (stepCells (l.getD i st0) wv')[j]? = some u → W.cell? ⟨g, i * 4 + j, none⟩ = some u := fun j u hj hu => h.cell i j (by omega) hj (by rw [e]; exact hu)
    refine ⟨g, 0, wv', rfl, ?_, ?_, ?_, ?_, hW⟩ <;> rw [Nat.zero_add]
    · simpa using hcl 0 _ (by omega) rfl
    · exact hcl 1 _ (by omega) rfl
    · exact hcl 2 _ (by omega) rfl
    · exact hcl 3 _ (by omega) rfl
/-- the cells of steps with one more behind -/
theorem own_steps_more {W : World} {B : Nat} {v : Value} {L : List (List Value)} {l : List StepD} {x : StepD} {xv : Value} {c : Rd} (h : OwnR W B 54 4 v (L ++ [stepCells x xv])) (hl : L.length = l.length)
    (hc : ∀ i, i < l.length → ∃ wv, L.getD i [] = stepCells (l.getD i st0) wv ∧ WtsIn c wv (l.getD i st0).wts) (hx : WtsIn c xv x.wts) (hk : Keeps c W.cell?) : StepsIn W.cell? v (l ++ [x]) := by
  refine own_steps h (by simp [hl]) fun i hi => ?_
  rcases Nat.lt_or_ge i l.length with h5 | h5
  · obtain ⟨cv, e, hw⟩ := hc i h5
    rw [getD_app_left _ _ _ _ h5, getD_app_left _ _ _ _ (by omega)]
    exact ⟨cv, e, hw.keeps hk⟩
  · have e1 : i = l.length := by simp at hi; omega
    subst e1
    rw [getD_app_right _ _ _ _ (Nat.le_refl _), getD_app_right _ _ _ _ (by omega)]
    refine ⟨xv, ?_, ?_⟩
    · rw [show l.length - L.length = 0 by omega, Nat.sub_self]; rfl
    · rw [Nat.sub_self]; exact hx.keeps hk
end Go.Proofs.Ytppfdjjhloaopaa
