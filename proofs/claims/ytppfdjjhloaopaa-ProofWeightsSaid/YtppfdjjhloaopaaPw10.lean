/- The walk of the closure of proof that calls itself. Conditions: how the arguments lie in memory; sizes; that at the last thing some row refutes. -/
import Derived.Test.YtppfdjjhloaopaaPw9
namespace Go.Proofs.Ytppfdjjhloaopaa
open Go.RowKit

theorem StepsOwn.later {W W' : World} {B : Nat} {v : Value} {l : List StepD} (h : StepsOwn W B v l) (hb : Below W.heap.size W W') : StepsOwn W' B v l := by
  obtain ⟨L, hO, hl, hs⟩ := h
  refine ⟨L, ⟨?_, hO.2⟩, hl, fun i hi => ?_⟩
  · obtain ⟨h1, h2⟩ := hO.1
    refine ⟨h1, h2.imp id ?_⟩
    rintro ⟨g, cap, cur, e1, e2, e3, e4⟩
    refine ⟨g, cap, cur, e1, e2, ?_, e4⟩
    have hlt : g < W.heap.size := (Array.getElem?_eq_some_iff.1 e3).1
    exact (hb.block g hlt).trans e3
  · obtain ⟨wv, e, hw⟩ := hs i hi
    refine ⟨wv, e, hw.imp id ?_⟩
    rintro ⟨b, r, hB, hBb, e1, e2⟩
    exact ⟨b, r, hB.later hb, hBb, e1, e2⟩
theorem OwnW.eff {B : Nat} {W W' : World} {wv : Value} {ws : List (Int × Int)} (h : OwnW W B wv ws) (hb : EffE B 54 W W') : OwnW W' B wv ws := by
  refine h.imp id ?_
  rintro ⟨b, r, hB, hBb, e1, e2⟩
  exact ⟨b, r, hb.blk hB (by decide), hBb, e1, e2⟩
/-- behind an append of one step -/
theorem StepsOwn.app {W W' : World} {B : Nat} {v' : Value} {l : List StepD} {L : List (List Value)} {st : StepD} {wv : Value} (hl : L.length = l.length) (hs : ∀ i, i < l.length → ∃ wv, L.getD i [] = stepCells (l.getD i st0) wv ∧ OwnW W B wv (l.getD i st0).wts)
    (hw : OwnW W B wv st.wts) (h : OwnR W' B 54 4 v' (L ++ [stepCells st wv])) (he : EffE B 54 W W') : StepsOwn W' B v' (l ++ [st]) := by
  refine ⟨_, h, by simp [hl], fun i hi => ?_⟩
  rcases Nat.lt_or_ge i l.length with h1 | h1
  · obtain ⟨wv', e, hw'⟩ := hs i h1
    refine ⟨wv', ?_, ?_⟩
    · rw [getD_app_left _ _ _ _ (by omega), getD_app_left _ _ _ _ h1]; exact e
    · rw [getD_app_left _ _ _ _ h1]; exact hw'.eff he
  · have hi' : i = l.length := by simp at hi; omega
    subst hi'
    refine ⟨wv, ?_, ?_⟩
    · rw [getD_app_right _ _ _ _ (by omega), getD_app_right _ _ _ _ (by omega), hl]; simp
    · rw [getD_app_right _ _ _ _ (by omega)]; simpa using hw.eff he
theorem Blk.ne {W : World} {b c : Nat} {vs us : List Value} {t t' : TypeId} (h : Blk W b vs t) (k : Blk W c us t') (ht : t ≠ t') : b ≠ c := fun e => by
  subst e
  have := (show W.heap[b]? = _ from h).symm.trans (show W.heap[b]? = _ from k)
  simp at this; exact ht this.2
theorem StepsOwn.setO {W : World} {B Bo : Nat} {v x : Value} {l : List StepD} (h : StepsOwn W B v l) (hO : Blk W Bo [x] 30) (hB : Bo < B) (u : Value) : StepsOwn (W.setCell ⟨Bo, 0, none⟩ u) B v l := by
  obtain ⟨L, hOR, hl, hs⟩ := h
  refine ⟨L, ⟨?_, hOR.2⟩, hl, fun i hi => ?_⟩
  · obtain ⟨h1, h2⟩ := hOR.1
    refine ⟨h1, h2.imp id ?_⟩
    rintro ⟨g, cap, cur, e1, e2, e3, e4⟩
    exact ⟨g, cap, cur, e1, e2, (Below.heap_setCell W ⟨Bo, 0, none⟩ u g (by show g ≠ Bo; omega)).trans e3, e4⟩
  · obtain ⟨wv, e, hw⟩ := hs i hi
    refine ⟨wv, e, hw.imp id ?_⟩
    rintro ⟨b, r, hb, hBb, e1, e2⟩
    exact ⟨b, r, hb.other (hb.ne hO (by decide)) _ _, hBb, e1, e2⟩
theorem EffE.setRow {W : World} {B g n c j k : Nat} {e : TypeId} {L : List (List Value)} (h : OwnR W B e k (.slice (some ⟨g, 0, none⟩) n c) L) (u : Value) : EffE B e W (W.setCell ⟨g, j, none⟩ u) := by
  refine ⟨rfl, rfl, rfl, by simp [World.setCell], fun b hb hn => Below.heap_setCell _ _ _ _ ?_⟩
  show b ≠ g
  rcases h.form with ⟨h1, -⟩ | ⟨g', c', cur, h1, h2, h3, -⟩
  · cases h1
  · cases h1
    rintro rfl
    rcases hn with hn | hn
    · omega
    · exact hn _ _ h3
theorem getD_set_ne' {α : Type} (l : List α) {i k : Nat} (h : i ≠ k) (x d : α) : (l.set k x).getD i d = l.getD i d := by
  rw [List.getD_eq_getElem?_getD, List.getD_eq_getElem?_getD, List.getElem?_set_ne (Ne.symm h)]
theorem getD_set_eq' {α : Type} (l : List α) {k : Nat} (h : k < l.length) (x d : α) : (l.set k x).getD k d = x := by
  rw [List.getD_eq_getElem?_getD, List.getElem?_set_self h]; rfl
theorem StepsOwn.patch {W : World} {B g c : Nat} {L : List (List Value)} {l : List StepD} (h : OwnR W B 54 4 (.slice (some ⟨g, 0, none⟩) L.length c) L) (hl : L.length = l.length)
    (hs : ∀ i, i < l.length → ∃ wv, L.getD i [] = stepCells (l.getD i st0) wv ∧ OwnW W B wv (l.getD i st0).wts) (k : Nat) (hk : k < l.length) (no yes : Int) :
    StepsOwn ((W.setCell ⟨g, k * 4 + 1, none⟩ (.int .i64 no)).setCell ⟨g, k * 4 + 2, none⟩ (.int .i64 yes)) B (.slice (some ⟨g, 0, none⟩) L.length c) (l.set k ⟨(l.getD k st0).var, no, yes, (l.getD k st0).wts⟩) := by
  have h1 := h.set k 1 (by omega) (by omega) (.int .i64 no)
  have e1 : (L.set k ((L.getD k []).set 1 (.int .i64 no))).length = L.length := List.length_set
  rw [← e1] at h1
  have h2 := h1.set k 2 (by omega) (by omega) (.int .i64 yes)
  rw [e1, getD_set_eq' _ (by omega), List.set_set] at h2
  have hE := (EffE.setRow h (j := k * 4 + 1) (.int .i64 no)).trans (EffE.setRow h1 (j := k * 4 + 2) (.int .i64 yes))
  refine ⟨_, h2, by simp [hl], fun i hi => ?_⟩
  rw [List.length_set] at hi
  by_cases hik : i = k
  · subst hik
    obtain ⟨wv, e, hw⟩ := hs i hi
    refine ⟨wv, ?_, ?_⟩
    · rw [getD_set_eq' _ (by omega), getD_set_eq' _ (by omega), e]; rfl
    · rw [getD_set_eq' _ (by omega)]; exact hw.eff hE
  · obtain ⟨wv, e, hw⟩ := hs i hi
    refine ⟨wv, ?_, ?_⟩
    · rw [getD_set_ne' _ hik, getD_set_ne' _ hik, e]
    · rw [getD_set_ne' _ hik]; exact hw.eff hE
theorem cells4 {a b c : Int} {p : Option Addr} {n m : Nat} : ∀ u ∈ [Value.int .i64 a, .int .i64 b, .int .i64 c, .slice p n m], u.oneCell' = true := by
  intro u hu; simp at hu; rcases hu with rfl | rfl | rfl | rfl <;> rfl
def GrowQ (B Bo k : Nat) (l : List StepD) (W : World) (e : Ending) (W' : World) : Prop :=
  e = .returned (.int .i64 k) ∧ ∃ v', Blk W' Bo [v'] 30 ∧ StepsOwn W' B v' l ∧ EffX B Bo W W'
set_option maxRecDepth 100000 in
set_option maxHeartbeats 1000000 in
theorem grow_leaf (rows : List RowD) (n : Nat) (hn : n ≤ 12) (hrs : ∀ r ∈ rows, r.coef.length = n ∧ coefsB r.coef = true) (rv : Value) (B Bo Br Bg : Nat) (hBo : Bo < B) (_hBr : Br < B) (_hBg : Bg < B) (_hor : Bo ≠ Br) (_hog : Bo ≠ Bg) (w0 : World) (hr0 : RowsAt w0 rv rows) (_h0o : w0.heap.size ≤ Bo)
    (d s : Nat) (l : List StepD) (v : Value) (W : World) (hdn : d ≤ n) (hlen : l.length < 10000) (h0W : Below w0.heap.size w0 W) (hO : Blk W Bo [v] 30) (hS : StepsOwn W B v l) (hR : Blk W Br [rv] 24) (hBW : B ≤ W.heap.size) (hany : rows.any (badB d s) = true) :
    Calls Try.prog 75 #[.int .i64 d, .int .i64 s, .pointer (some ⟨Bo, 0, none⟩), .pointer (some ⟨Br, 0, none⟩), .pointer (some ⟨Bg, 0, none⟩)] W (GrowQ B Bo l.length (l ++ [leafF (idxF (badB d s) rows)]) W) := by
  obtain ⟨L, hOR, hLl, hLs⟩ := id hS
  obtain ⟨av, cv, rfl⟩ : ∃ a c, v = .slice a l.length c := by
    rcases hOR.form with ⟨e, e2⟩ | ⟨g, c, cur, e, -⟩
    · exact ⟨none, 0, by rw [e, ← hLl, e2]; rfl⟩
    · exact ⟨_, c, by rw [e, hLl]⟩
  have hr := hr0.below h0W
  obtain ⟨W1, hW1, hb1, hcs1, -⟩ := boxed W #[.int .i64 d] 3
  obtain ⟨W2, hW2, hb2, hcs2, -⟩ := boxed W1 #[.int .i64 s] 3
  have hz1 : W1.heap.size = W.heap.size + 1 := by rw [← hW1]; simp
  have k1 := keep hb2 (hcs1 0 (.int .i64 d) rfl)
  have k2 := hcs2 0 (.int .i64 s) rfl
  have hb12 := below2 hb1 hb2
  rw [hz1] at k2
  have hr2 := hr.below hb12
  have hO2 := hO.later hb12
  have o0 := hO2.cell 0 rfl
  have r0 := (hR.later hb12).cell 0 rfl
  have HQ : Hid (OnRows 77 #[.pointer (some ⟨W.heap.size, 0, none⟩), .pointer (some ⟨W.heap.size + 1, 0, none⟩)] (badB d s) rows W2) :=
    hide fun W' hb r hr' cv hcv => bad_any r cv _ _ d s W' hcv (by have := hrs r hr'; omega) (hrs r hr').2 (by have := hrs r hr'; omega) (keep hb k1) (keep hb k2)
  have hi0 : 0 ≤ idxF (badB d s) rows := by have := idxF_any (badB d s) rows; rw [hany] at this; simpa using this
  have hbl := hb12
  rw [← hW2, ← hW1] at k1 k2 hr2 o0 r0 hbl
  have HW2 := hide hW2
  have HW1 := hide hW1
  clear hW1 hW2 hcs1 hcs2 hz1
  have HH : Hid (OnRows 77 #[.pointer (some ⟨W.heap.size, 0, none⟩), .pointer (some ⟨W.heap.size + 1, 0, none⟩)] (badB d s) rows ((W.alloc (.cells #[.int .i64 d] 3)).alloc (.cells #[.int .i64 s] 3))) := by rw [HW1.out, HW2.out]; exact HQ
  generalize hix : idxF (badB d s) rows = ix at hi0 ⊢
  have HI := hide hix
  clear hix
  go_enter Try.func75, Try.ntmps75
  go_wp2_with fail
  refine (idxrow_any _ _ (Go.Proofs.enters_of Try.func77 (by kernel_rfl) rfl) (badB d s) rows _ _ hr2 HH.out).mono ?_
  rw [HI.out]
  rintro e W3 ⟨rfl, hb3⟩
  have p0 := keep hb3 o0
  have hb4 := below2 hbl (below2 hb3 (bal W3 (.cells #[.int .i64 ix, .int .i64 1] 56)))
  have hS4 := hS.later hb4
  obtain ⟨L, hOR, hLl, hLs⟩ := hS4
  have hO4 := hO.later hb4
  have hLl2 : L.length < 10000 := by omega
  have hB4 : B ≤ W3.heap.size + 1 := by have := hb4.size; simp at this; omega
  have hWt : OwnW (W3.alloc (.cells #[.int .i64 ix, .int .i64 1] 56)) B (.slice (some ⟨W3.heap.size, 0, none⟩) 1 1) (leafF ix).wts := .inr ⟨_, _, Blk.new W3 _ _, by have := hb3.size; simp at this; omega, rfl, rfl⟩
  have HLl := hide hLl
  have HLs := hide hLs
  clear hLl hLs
  go_wp2_with (at_builtin; refine app_rec infoStep rfl (by decide) Try.underlying30 rfl _ _ rfl B _ L rfl hOR [.int .i64 (-1), .int .i64 0, .int .i64 0, .slice (some ⟨W3.heap.size, 0, none⟩) 1 1] rfl cells4 _ rfl (by simp) (by omega) (by omega) (by simp; omega) ?_; intro g c W5 hO5 hE5 hz5; have hO6 := hE5.blk hO4 (by decide); have q0 := hO6.cell 0 rfl; have q1 := hO6.frozen 0)
  go_ret
  have hlen5 := HLl.out
  refine ⟨rfl, _, hO6.set 0 _, ?_, ((EffX.of (EffE.of_below hb4)).trans (EffX.of hE5)).trans (EffX.set _ _ _)⟩
  have := StepsOwn.app HLl.out HLs.out hWt (st := leafF ix) hO5 hE5
  rw [List.length_append] at this
  exact this.setO hO6 hBo _
set_option maxRecDepth 100000 in
set_option maxHeartbeats 2000000 in
theorem grow_node (rows : List RowD) (n : Nat) (hn : n ≤ 12) (hrs : ∀ r ∈ rows, r.coef.length = n ∧ coefsB r.coef = true) (rv : Value) (B Bo Br Bg : Nat) (hBo : Bo < B) (_hBr : Br < B) (_hBg : Bg < B) (hor : Bo ≠ Br) (hog : Bo ≠ Bg) (w0 : World) (hr0 : RowsAt w0 rv rows) (h0o : w0.heap.size ≤ Bo)
    (f d s : Nat) (l : List StepD) (v : Value) (W : World) (hdn : d + 1 + f = n) (hs : s < 2 ^ d) (hlen : l.length + 2 ^ (f + 1 + 1) ≤ 10000) (h0W : Below w0.heap.size w0 W) (hO : Blk W Bo [v] 30) (hS : StepsOwn W B v l) (hR : Blk W Br [rv] 24)
    (hG : Blk W Bg [.func (.func 75) #[] #[.pointer (some ⟨Bo, 0, none⟩), .pointer (some ⟨Br, 0, none⟩), .pointer (some ⟨Bg, 0, none⟩)]] 49) (hBW : B ≤ W.heap.size) (hany : rows.any (badB d s) = false)
    (ih : ∀ (s : Nat) (l : List StepD) (v : Value) (W : World), s < 2 ^ (d + 1) → l.length + 2 ^ (f + 1) ≤ 10000 → Below w0.heap.size w0 W → Blk W Bo [v] 30 → StepsOwn W B v l → Blk W Br [rv] 24 →
      Blk W Bg [.func (.func 75) #[] #[.pointer (some ⟨Bo, 0, none⟩), .pointer (some ⟨Br, 0, none⟩), .pointer (some ⟨Bg, 0, none⟩)]] 49 → B ≤ W.heap.size →
      Calls Try.prog 75 #[.int .i64 ((d : Int) + 1), .int .i64 s, .pointer (some ⟨Bo, 0, none⟩), .pointer (some ⟨Br, 0, none⟩), .pointer (some ⟨Bg, 0, none⟩)] W (GrowQ B Bo l.length (l ++ growF rows f (d + 1) s l.length) W)) :
    Calls Try.prog 75 #[.int .i64 d, .int .i64 s, .pointer (some ⟨Bo, 0, none⟩), .pointer (some ⟨Br, 0, none⟩), .pointer (some ⟨Bg, 0, none⟩)] W (GrowQ B Bo l.length (l ++ growF rows (f + 1) d s l.length) W) := by
  obtain ⟨L, hOR, hLl, hLs⟩ := id hS
  obtain ⟨av, cv, rfl⟩ : ∃ a c, v = .slice a l.length c := by
    rcases hOR.form with ⟨e, e2⟩ | ⟨g, c, cur, e, -⟩
    · exact ⟨none, 0, by rw [e, ← hLl, e2]; rfl⟩
    · exact ⟨_, c, by rw [e, hLl]⟩
  have hr := hr0.below h0W
  obtain ⟨W1, hW1, hb1, hcs1, -⟩ := boxed W #[.int .i64 d] 3
  obtain ⟨W2, hW2, hb2, hcs2, -⟩ := boxed W1 #[.int .i64 s] 3
  have hz1 : W1.heap.size = W.heap.size + 1 := by rw [← hW1]; simp
  have k1 := keep hb2 (hcs1 0 (.int .i64 d) rfl)
  have k2 := hcs2 0 (.int .i64 s) rfl
  have hb12 := below2 hb1 hb2
  rw [hz1] at k2
  have hr2 := hr.below hb12
  have hO2 := hO.later hb12
  have o0 := hO2.cell 0 rfl
  have r0 := (hR.later hb12).cell 0 rfl
  have HQ : Hid (OnRows 77 #[.pointer (some ⟨W.heap.size, 0, none⟩), .pointer (some ⟨W.heap.size + 1, 0, none⟩)] (badB d s) rows W2) :=
    hide fun W' hb r hr' cv hcv => bad_any r cv _ _ d s W' hcv (by have := hrs r hr'; omega) (hrs r hr').2 (by have := hrs r hr'; omega) (keep hb k1) (keep hb k2)
  have k1' : Blk W2 W.heap.size [.int .i64 d] 3 := by rw [← hW2, ← hW1]; exact (Blk.new W [.int .i64 d] 3).old _
  have k2' : Blk W2 (W.heap.size + 1) [.int .i64 s] 3 := by rw [← hW2, ← hz1]; exact Blk.new W1 [.int .i64 s] 3
  have hG2 := hG.later hb12
  have hR2 := hR.later hb12
  have hix : idxF (badB d s) rows = -1 := idxF_none _ _ hany
  have HI := hide hix
  rw [← hW2, ← hW1] at k1' k2' hG2 hR2 hO2
  have hbl := hb12
  rw [← hW2, ← hW1] at k1 k2 hr2 o0 r0 hbl
  have HW2 := hide hW2
  have HW1 := hide hW1
  clear hW1 hW2 hcs1 hcs2 hz1
  have HH : Hid (OnRows 77 #[.pointer (some ⟨W.heap.size, 0, none⟩), .pointer (some ⟨W.heap.size + 1, 0, none⟩)] (badB d s) rows ((W.alloc (.cells #[.int .i64 d] 3)).alloc (.cells #[.int .i64 s] 3))) := by rw [HW1.out, HW2.out]; exact HQ
  have hp1 : 2 ^ (f + 1 + 1) = 2 ^ (f + 1) + 2 ^ (f + 1) := by rw [Nat.pow_succ]; omega
  have hp2 : 1 ≤ 2 ^ (f + 1) := Nat.one_le_two_pow
  have hlen3 : l.length < 10000 := by omega
  have HP := hide hp1
  clear hix hp1
  go_enter Try.func75, Try.ntmps75
  go_wp2_with fail
  refine (idxrow_any _ _ (Go.Proofs.enters_of Try.func77 (by kernel_rfl) rfl) (badB d s) rows _ _ hr2 HH.out).mono ?_
  rw [HI.out]
  rintro e W3 ⟨rfl, hb3⟩
  have p0 := keep hb3 o0
  have hb4 := below2 hbl hb3
  obtain ⟨L, hOR, hLl, hLs⟩ := hS.later hb4
  have hO4 := hO.later hb4
  have d4 := k1'.later hb3
  have s4 := k2'.later hb3
  have d40 := d4.cell 0 rfl
  have hLl2 : L.length < 10000 := by omega
  have hB4 : B ≤ W3.heap.size := by have := hb4.size; omega
  have hBoW := hO.lt
  have N1 : Hid (W.heap.size ≠ Bo) := by show _ ≠ _; omega
  have N2 : Hid (W.heap.size + 1 ≠ Bo) := by show _ ≠ _; omega
  have hWt : OwnW W3 B (.slice none 0 0) (nodeF d 0 0).wts := .inl ⟨rfl, rfl⟩
  have HLl := hide hLl
  have HLs := hide hLs
  clear hLl hLs
  go_wp2_with (at_builtin; refine app_rec infoStep rfl (by decide) Try.underlying30 rfl _ _ rfl B _ L rfl hOR [.int .i64 d, .int .i64 0, .int .i64 0, .slice none 0 0] rfl cells4 _ rfl rfl (by omega) (by omega) (by omega) ?_; intro g c W5 hO5 hE5 hz5; have hO6 := hE5.blk hO4 (by decide); have q0 := hO6.cell 0 rfl; have q1 := hO6.frozen 0; have q2 := ((hE5.blk (hG2.later hb3) (by decide)).other (Ne.symm hog) 0 (.slice (some ⟨g, 0, none⟩) (L.length + 1) c)).cell 0 rfl; have q3 := ((hE5.blk d4 (by decide)).other N1.out 0 (.slice (some ⟨g, 0, none⟩) (L.length + 1) c)).cell 0 rfl; have q4 := ((hE5.blk s4 (by decide)).other N2.out 0 (.slice (some ⟨g, 0, none⟩) (L.length + 1) c)).cell 0 rfl)
  have E5 : EffX B Bo W (W5.setCell ⟨Bo, 0, none⟩ (.slice (some ⟨g, 0, none⟩) (L.length + 1) c)) := ((EffX.of (EffE.of_below hb4)).trans (EffX.of hE5)).trans (EffX.set _ _ _)
  have S5 : StepsOwn (W5.setCell ⟨Bo, 0, none⟩ (.slice (some ⟨g, 0, none⟩) (L.length + 1) c)) B (.slice (some ⟨g, 0, none⟩) (L.length + 1) c) (l ++ [nodeF d 0 0]) := by
    have := StepsOwn.app HLl.out HLs.out hWt (st := nodeF d 0 0) hO5 hE5
    rw [List.length_append] at this
    exact this.setO hO6 hBo _
  have hl1 : (l ++ [nodeF d 0 0]).length = l.length + 1 := by simp
  have HL1 := hide hl1
  have d5 := E5.blk hO
  have B5 := E5.size
  have dd5 := (hE5.blk d4 (by decide)).other N1.out 0 (.slice (some ⟨g, 0, none⟩) (L.length + 1) c)
  have ss5 := (hE5.blk s4 (by decide)).other N2.out 0 (.slice (some ⟨g, 0, none⟩) (L.length + 1) c)
  have X1 := E5.below h0W h0o (by omega)
  have X2 := hO6.set 0 (.slice (some ⟨g, 0, none⟩) (L.length + 1) c)
  have X3 := E5.blk hR (Ne.symm hor) (by decide)
  have X4 := E5.blk hG (Ne.symm hog) (by decide)
  have hpd : 2 ^ (d + 1) = 2 ^ d + 2 ^ d := by rw [Nat.pow_succ]; omega
  have hs1 : s < 2 ^ (d + 1) := by omega
  have hs2 : s + 2 ^ d < 2 ^ (d + 1) := by omega
  have C1 := hide (ih s (l ++ [nodeF d 0 0]) _ _ hs1 (by rw [hl1]; have := HP.out; omega) X1 X2 S5 X3 X4 (by omega))
  clear hl1 hpd d5
  refine C1.out.mono ?_
  rintro e W7 ⟨rfl, v7, hO7, hS7, hE7⟩
  have d70 := (hE7.blk dd5 N1.out (by decide)).cell 0 rfl
  have s70 := (hE7.blk ss5 N2.out (by decide)).cell 0 rfl
  have g70 := (hE7.blk X4 (Ne.symm hog) (by decide)).cell 0 rfl
  have o70 := hO7.cell 0 rfl
  clear q0 q1 q2 q3 q4 d40 p0
  go_wp2_with fail
  go_still_tail 7, (by kernel_rfl)
  change wpList _ _ _ _ _ W7.drew
  obtain ⟨W8, hW8⟩ : ∃ W8, W7.drew = W8 := ⟨_, rfl⟩
  rw [hW8]
  have hb8 : Below W7.heap.size W7 W8 := by rw [← hW8]; exact (Below.refl _ _).drew
  clear hW8
  go_wp2_with fail
  rw [wrap_id (by have := pow_bd (n := d) (by omega); omega) (by have := pow_bd (n := d) (by omega); omega), or_pow hs (by omega)]
  have E8 : EffX B Bo W W8 := (E5.trans hE7).trans (EffX.of (EffE.of_below hb8))
  have gA := (growF_len rows f (d + 1) s (l.length + 1)).2
  rw [HL1.out] at hS7
  generalize hA : growF rows f (d + 1) s (l.length + 1) = A at hS7 gA
  have HA := hide hA
  have hl2 : (l ++ [nodeF d 0 0] ++ A).length = l.length + 1 + A.length := by simp; omega
  have HL2 := hide hl2
  have C2 := hide (ih (s + 2 ^ d) (l ++ [nodeF d 0 0] ++ A) _ _ hs2 (by rw [hl2]; have := HP.out; omega) (E8.below h0W h0o (by omega)) (hO7.later hb8) (hS7.later hb8) (E8.blk hR (Ne.symm hor) (by decide)) (E8.blk hG (Ne.symm hog) (by decide)) (by have := E8.size; omega))
  clear hA hl2
  refine C2.out.mono ?_
  rintro e W9 ⟨rfl, v9, hO9, hS9, hE9⟩
  rw [HL2.out] at hS9
  have gB := growF_len rows f (d + 1) (s + 2 ^ d) (l.length + 1 + A.length)
  generalize hBs : growF rows f (d + 1) (s + 2 ^ d) (l.length + 1 + A.length) = Bs at hS9 gB
  have HBs := hide hBs
  obtain ⟨L9, hOR9, hLl9, hLs9⟩ := hS9
  have hl3 : (l ++ [nodeF d 0 0] ++ A ++ Bs).length = l.length + 1 + A.length + Bs.length := by simp; omega
  rw [hl3] at hLl9 hLs9
  obtain ⟨g9, c9, rfl⟩ : ∃ g9 c9, v9 = .slice (some ⟨g9, 0, none⟩) L9.length c9 := by
    rcases hOR9.form with ⟨-, e2⟩ | ⟨g, c, cur, e, -⟩
    · rw [e2] at hLl9; simp at hLl9; omega
    · exact ⟨_, _, e⟩
  obtain ⟨wv9, hk9, hw9⟩ := hLs9 l.length (by omega)
  have m1 := hOR9.cell l.length 1 (by omega) (by omega) (u := .int .i64 (nodeF d 0 0).no) (by rw [hk9, List.append_assoc, List.append_assoc, getD_app_right _ _ _ _ (Nat.le_refl _)]; simp [stepCells])
  have m2 := hOR9.cell l.length 2 (by omega) (by omega) (u := .int .i64 (nodeF d 0 0).yes) (by rw [hk9, List.append_assoc, List.append_assoc, getD_app_right _ _ _ _ (Nat.le_refl _)]; simp [stepCells])
  have m3 := hOR9.frozen (l.length * 4 + 1)
  have m4 := hOR9.frozen (l.length * 4 + 2)
  have o90 := hO9.cell 0 rfl
  have hll : l.length < L9.length := by omega
  have HLl9 := hide hLl9
  have Hk9 := hide hk9
  have Hl3 := hide hl3
  clear hLl9 hk9 hl3 hBs d70 s70 g70 o70
  go_wp2_with fail
  go_region
  go_wp2
  go_ret
  have hbg : B ≤ g9 := by
    rcases hOR9.form with ⟨e, -⟩ | ⟨g', c', cur, e, hb, -⟩
    · cases e
    · cases e; exact hb
  have P9 := StepsOwn.patch hOR9 (by rw [HLl9.out, Hl3.out]) (by rw [Hl3.out]; exact hLs9) l.length (by simp) (↑l.length + 1) (↑l.length + (↑A.length + 1))
  have eset : (l ++ [nodeF d 0 0] ++ A ++ Bs).set l.length ⟨((l ++ [nodeF d 0 0] ++ A ++ Bs).getD l.length st0).var, ↑l.length + 1, ↑l.length + (↑A.length + 1), ((l ++ [nodeF d 0 0] ++ A ++ Bs).getD l.length st0).wts⟩ = l ++ growF rows (f + 1) d s l.length := by
    have e1 : (l ++ [nodeF d 0 0] ++ A ++ Bs).getD l.length st0 = nodeF d 0 0 := by
      rw [List.append_assoc, List.append_assoc, getD_app_right _ _ _ _ (Nat.le_refl _)]; simp
    rw [e1]
    simp only [growF]
    rw [if_neg (by rw [hany]; simp), HA.out, HBs.out, List.append_assoc, List.append_assoc, List.set_append_right _ _ (Nat.le_refl _)]
    simp [nodeF]
    omega
  rw [eset] at P9
  have hE10 : EffX B Bo W9 _ := EffX.of (EffE.setRow hOR9 (j := l.length * 4 + 1) (.int .i64 (↑l.length + 1)))
  refine ⟨rfl, _, ?_, P9, ?_⟩
  · exact ((hO9.other (by omega) _ _).other (by omega) _ _)
  · have h1 := hOR9.set l.length 1 (by omega) (by omega) (.int .i64 (↑l.length + 1))
    exact (((E8.trans hE9).trans hE10).trans (EffX.of (EffE.setRow h1 (j := l.length * 4 + 2) (.int .i64 (↑l.length + (↑A.length + 1)))))).trans (EffX.of (EffE.of_below (Below.refl _ _).drew))
end Go.Proofs.Ytppfdjjhloaopaa
