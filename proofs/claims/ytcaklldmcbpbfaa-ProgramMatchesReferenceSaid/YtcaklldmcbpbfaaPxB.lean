/- Walks of least and plain of the reference. Conditions: how the arguments lie in memory; sizes; that at the last thing some row refutes. -/
import Derived.Test.YtcaklldmcbpbfaaPmodM
import Derived.Test.YtcaklldmcbpbfaaPw11
import Derived.Test.YtcaklldmcbpbfaaPxA
namespace Go.Proofs.Ytcaklldmcbpbfaa
open Go.RowKit

set_option maxHeartbeats 1000000 in
theorem leastr_any (r : RowD) (cv : Value) (d s : Nat) (w : World) (hv : IntsAt w cv r.coef) (hl : r.coef.length ≤ 13) (hb : coefsB r.coef = true) (hd : d ≤ r.coef.length) :
    Calls Try.prog 64 #[rowV r cv, .int .i64 d, .int .i64 s] w (Ret (.int .i64 (leastF r.coef d s)) w) := by
  obtain ⟨a, c, rfl, hlc, hcm, hc⟩ := id hv
  have hm1 : (r.coef.length : Int) ≤ 9223372036854775807 := by omega
  have HF := hide (leastK_eq (s := s) hd)
  have HB := hide hb
  have HC := hide hc
  clear hc hb
  go_enter Try.func64, Try.ntmps64
  go_wp2_with fail
  generalize hW : World.alloc w _ = W0
  have hb0 : Below w.heap.size w W0 := by rw [← hW]; exact bal w _
  have hP : Blk W0 w.heap.size [.int .i64 r.kind, .int .i64 r.a, .int .i64 r.b, .int .i64 r.at_, .slice a r.coef.length c, .int .i64 r.most] 26 := by rw [← hW]; exact Blk.new w _ _
  clear hW
  go_loopw [7, 8] (fun s7 i wr => ∃ k : Nat, k ≤ r.coef.length ∧ i = .int .i64 k ∧ s7 = .int .i64 (leastK r.coef d s k) ∧ Below W0.heap.size W0 wr) (fun _ i _ => r.coef.length - (intOf i).toNat)
  case atStart => exact ⟨0, by omega, rfl, rfl, Below.refl _ _⟩
  case round =>
    obtain ⟨k, hk, rfl, rfl, hbr⟩ := hrel
    have pc := (hP.later hbr).cell 4 rfl
    have hbx := below2 hb0 hbr
    by_cases hlt : k < r.coef.length
    · obtain ⟨b, o, rfl, hck⟩ := HC.out k hlt
      have hbd := leastK_bound r.coef d s HB.out k hk
      have hbk := all_at (d := 0) HB.out hlt
      simp only [bndB, decide_eq_true_eq] at hbk
      have hk1 : leastK r.coef d s (k + 1) = leastK r.coef d s k + (if k < d then (if s / 2 ^ k % 2 = 1 then r.coef.getD k 0 else 0) else if r.coef.getD k 0 < 0 then r.coef.getD k 0 else 0) := rfl
      have hkl : decide (k < r.coef.length) = true := by simpa using hlt
      generalize r.coef.getD k 0 = x at hck hbk hk1
      generalize leastK r.coef d s k = t at hbd hk1 ⊢
      have HK := hide hk1
      have ck := keep hbx hck
      clear hk1 hck
      by_cases hkd : k < d
      · have HK2 : Hid (leastK r.coef d s (k + 1) = t + x * ((s / 2 ^ k % 2 : Nat) : Int)) := hide (by
          rw [HK.out, if_pos hkd]; rcases bit01 s k with h | h <;> simp [h])
        have c1 := bwc ck
        have p1 := bwc pc
        go_wp2_with fail
        refine wp_region_bw (by kernel_rfl) (by kernel_rfl) ?_
        repeat (go_big_quiet_step (fail))
        refine wpQuiet_nil ?_
        rintro _ ⟨i, rfl⟩
        go_wp2_with fail
        go_roundw
        case rel => exact ⟨k + 1, by omega, by go_num, i64_eq (by rw [HK2.out, tot_step s k x t hbk hbd (by omega)]), bwb i hbr hbr.size⟩
        case measure => simp [intOf]; omega
      · by_cases hx : x < 0
        · go_wp2_with fail
          go_roundw
          case rel => exact ⟨k + 1, by omega, by go_num, i64_eq (by rw [HK.out, if_neg hkd, if_pos hx]), hbr⟩
          case measure => simp [intOf]; omega
        · go_wp2_with fail
          go_roundw
          case rel => exact ⟨k + 1, by omega, by go_num, i64_eq (by rw [HK.out, if_neg hkd, if_neg hx]; simp), hbr⟩
          case measure => simp [intOf]; omega
    · obtain rfl : k = r.coef.length := by omega
      go_wp2_with fail
      go_ret
      exact ⟨ret_int HF.out, hbx⟩
theorem StepsOwn.yes {W : World} {B g c : Nat} {L : List (List Value)} {l : List StepD} (h : OwnR W B 70 4 (.slice (some ⟨g, 0, none⟩) L.length c) L) (hl : L.length = l.length)
    (hs : ∀ i, i < l.length → ∃ wv, L.getD i [] = stepCells (l.getD i st0) wv ∧ OwnW W B wv (l.getD i st0).wts) (k : Nat) (hk : k < l.length) (yes : Int) :
    StepsOwn (W.setCell ⟨g, k * 4 + 2, none⟩ (.int .i64 yes)) B (.slice (some ⟨g, 0, none⟩) L.length c) (l.set k ⟨(l.getD k st0).var, (l.getD k st0).no, yes, (l.getD k st0).wts⟩) := by
  have h1 := h.set k 2 (by omega) (by omega) (.int .i64 yes)
  have e1 : (L.set k ((L.getD k []).set 2 (.int .i64 yes))).length = L.length := List.length_set
  have hE := EffE.setRow h (j := k * 4 + 2) (.int .i64 yes)
  rw [← e1]
  refine ⟨_, by rw [e1]; exact h1, by simp [hl], fun i hi => ?_⟩
  rw [List.length_set] at hi
  by_cases hik : i = k
  · subst hik
    obtain ⟨wv, e, hw⟩ := hs i hi
    refine ⟨wv, ?_, ?_⟩
    · rw [getD_set_eq' _ (by omega), getD_set_eq' _ (by omega), e]; rfl
    · rw [getD_set_eq' _ (by omega)]; exact hw.eff hE
  · obtain ⟨wv, e, hw⟩ := hs i hi
    refine ⟨wv, ?_, ?_⟩
    · rw [getD_set_ne' _ hik, getD_set_ne' _ hik, e]
    · rw [getD_set_ne' _ hik]; exact hw.eff hE
/-- a call of plain returns the steps in a slice of the calls' own -/
def PlainQ (B : Nat) (l : List StepD) (W : World) (e : Ending) (W' : World) : Prop :=
  ∃ v', e = .returned v' ∧ StepsOwn W' B v' l ∧ EffE B 70 W W'
theorem StepsOwn.form {W : World} {B : Nat} {v : Value} {l : List StepD} (h : StepsOwn W B v l) : ∃ a c, v = .slice a l.length c := by
  obtain ⟨L, hOR, hLl, -⟩ := h
  rcases hOR.form with ⟨e, e2⟩ | ⟨g, c, cur, e, -⟩
  · exact ⟨none, 0, by rw [e, ← hLl, e2]; rfl⟩
  · exact ⟨_, c, by rw [e, hLl]⟩
set_option maxRecDepth 100000 in
set_option maxHeartbeats 16000000 in
theorem plain_step (rows : List RowD) (n : Nat) (hn : n ≤ 12) (hrs : ∀ r ∈ rows, r.coef.length = n ∧ coefsB r.coef = true) (rv : Value) (B : Nat) (w0 : World) (hr0 : RowsAt w0 rv rows) (h0B : w0.heap.size ≤ B)
    (f d s : Nat) (l : List StepD) (v : Value) (W : World) (hdn : d ≤ n) (hs : s < 2 ^ d) (hlen : l.length + 2 ^ (f + 1) ≤ 10000) (h0W : Below w0.heap.size w0 W) (hS : StepsOwn W B v l) (hBW : B ≤ W.heap.size)
    (ih : rows.any (badB d s) = false → ∃ f', f = f' + 1 ∧ d + 1 ≤ n ∧ ∀ (s : Nat) (l : List StepD) (v : Value) (W : World), s < 2 ^ (d + 1) → l.length + 2 ^ (f' + 1) ≤ 10000 → Below w0.heap.size w0 W → StepsOwn W B v l → B ≤ W.heap.size →
      Calls Try.prog 43 #[v, rv, .int .i64 ((d : Int) + 1), .int .i64 s] W (PlainQ B (l ++ growF rows f' (d + 1) s l.length) W)) :
    Calls Try.prog 43 #[v, rv, .int .i64 d, .int .i64 s] W (PlainQ B (l ++ growF rows f d s l.length) W) := by
  obtain ⟨av, cv, rfl⟩ := hS.form
  obtain ⟨ra, rc, rfl, hrl, hrm, hrc⟩ := id hr0
  have hm1 : (rows.length : Int) ≤ 9223372036854775807 := by omega
  have hp0 : 1 ≤ 2 ^ (f + 1) := Nat.one_le_two_pow
  have hlen3 : l.length < 10000 := by omega
  have HLEN := hide hlen
  have HR := hide hrs
  have HRC := hide hrc
  have HIH := hide ih
  have HSS := hide hs
  clear hrc hrs ih hlen hp0 hs
  go_enter Try.func43, Try.ntmps43
  go_wp2_with fail
  go_loopw [9] (fun i wr => ∃ k : Nat, k ≤ rows.length ∧ i = .int .i64 k ∧ Hid ((rows.take k).any (badB d s) = false) ∧ Below W.heap.size W wr) (fun i _ => rows.length - (intOf i).toNat)
  case atStart => exact ⟨0, by omega, rfl, hide rfl, Below.refl _ _⟩
  case round =>
    obtain ⟨k, hk, rfl, HA, hbr⟩ := hrel
    have hbx := below2 h0W hbr
    by_cases hlt : k < rows.length
    · obtain ⟨b, o, cv', rfl, hck⟩ := HRC.out k hlt
      have hm := getD_mem rows k (d := row0) hlt
      have hq13 : (rows.getD k row0).coef.length ≤ 13 := by have := HR.out _ hm; omega
      have hqd : d ≤ (rows.getD k row0).coef.length := by have := HR.out _ hm; omega
      have hqc := (HR.out _ hm).2
      have HT := hide (fun h => any_take_succ (d := row0) (p := badB d s) hlt HA.out h)
      have HFD := hide (fun h => idxF_found (badB d s) (d := row0) rows k hlt HA.out h)
      have HAN : Hid (badB d s (rows.getD k row0) = true → rows.any (badB d s) = true) := hide fun h => List.any_eq_true.2 ⟨_, hm, h⟩
      generalize rows.getD k row0 = x at hck hm HT HFD HAN hq13 hqd hqc
      obtain ⟨e0, e1, e2, e3, e4, e5, e6⟩ := hck.below hbx
      obtain ⟨ca, cc, rfl, -, -, -⟩ := id e6
      clear hck
      have q0 := bwc e0
      have q1 := bwc e1
      have q2 := bwc e2
      have q3 := bwc e3
      have q4 := bwc e4
      have q5 := bwc e5
      have HCALL := hide (fun (i : Bw wr.heap.size wr) => leastr_any x _ d s i.W (IntsIn.keeps (keeps_of_below i.h) e6) hq13 hqc hqd)
      have hkl : decide (k < rows.length) = true := by simpa using hlt
      by_cases hgt : x.most < leastF x.coef d s
      · have hx' : badB d s x = true := by unfold badB; exact decide_eq_true hgt
        have HX := hide hx'
        clear hx'
        go_wp2_with fail
        refine wp_region_bw (by kernel_rfl) (by kernel_rfl) ?_
        repeat (go_big_quiet_step (with_reducible exact quiet (HCALL.out _)))
        refine wpQuiet_nil ?_
        rintro _ ⟨i, rfl⟩
        have hb4 := below2 hbr i.h
        generalize i.W = WI at *
        have hb5 := below2 hb4 (bal WI (.cells #[.int .i64 k, .int .i64 1] 79))
        obtain ⟨L, hOR, hLl, hLs⟩ := hS.later hb5
        have hLl2 : L.length < 10000 := by omega
        have hB4 : B ≤ WI.heap.size + 1 := by have := hb4.size; omega
        have hWt : OwnW (WI.alloc (.cells #[.int .i64 k, .int .i64 1] 79)) B (.slice (some ⟨WI.heap.size, 0, none⟩) 1 1) (leafF k).wts := .inr ⟨_, _, Blk.new WI _ _, by have := hb4.size; omega, rfl, rfl⟩
        have HLl := hide hLl
        have HLs := hide hLs
        clear hLl hLs q0 q1 q2 q3 q4 q5
        rw [← HLl.out]
        go_wp2_with (at_builtin; refine app_rec infoStep rfl (by decide) Try.underlying35 rfl _ _ rfl B _ L (by rw [HLl.out]; rfl) hOR [.int .i64 (-1), .int .i64 0, .int .i64 0, .slice (some ⟨WI.heap.size, 0, none⟩) 1 1] rfl cells4 _ rfl (by simp) (by omega) (by omega) (by simp; omega) ?_; intro g c W5 hO5 hE5 hz5)
        go_ret
        refine ⟨_, rfl, ?_, (EffE.of_below hb5).trans hE5⟩
        rw [growF_leaf (HAN.out HX.out), HFD.out HX.out]
        have := StepsOwn.app HLl.out HLs.out hWt (st := leafF k) hO5 hE5
        rw [List.length_append] at this
        exact this
      · have hx' : badB d s x = false := by unfold badB; exact decide_eq_false hgt
        have HX := hide hx'
        clear hx'
        go_wp2_with fail
        refine wp_region_bw (by kernel_rfl) (by kernel_rfl) ?_
        repeat (go_big_quiet_step (with_reducible exact quiet (HCALL.out _)))
        refine wpQuiet_nil ?_
        rintro _ ⟨i, rfl⟩
        go_wp2_with fail
        go_roundw
        case rel => exact ⟨k + 1, by omega, by go_num, HT.out HX.out, bwb i hbr hbr.size⟩
        case measure => simp [intOf]; omega
    · obtain rfl : k = rows.length := by omega
      have hnb := any_take_end (p := badB d s) (Nat.le_refl rows.length) HA.out
      obtain ⟨f', hf', hdn', hih⟩ := HIH.out hnb
      have HLEN2 : Hid (l.length + 2 ^ (f' + 1 + 1) ≤ 10000) := hide (by have := HLEN.out; rw [hf'] at this; exact this)
      have hp1 : 2 ^ (f' + 1 + 1) = 2 ^ (f' + 1) + 2 ^ (f' + 1) := by rw [Nat.pow_succ]; omega
      have hp2 : 1 ≤ 2 ^ (f' + 1) := Nat.one_le_two_pow
      have HP1 : Hid (l.length + 1 + 2 ^ (f' + 1) ≤ 10000) := hide (by have := HLEN2.out; omega)
      obtain ⟨T, hT, hT1, hT2, hTc, hTi, -⟩ := pow_U (n := d) (by omega)
      have hsT : s < T := by rw [hT]; exact HSS.out
      have HT := hide hT
      have HNB := hide hnb
      have HC := hide hih
      have HFF := hide hf'
      clear hnb hih hp1 hp2 HIH hT hf'
      obtain ⟨L, hOR, hLl, hLs⟩ := hS.later hbr
      have hLl2 : L.length < 10000 := by omega
      have hB4 : B ≤ wr.heap.size := by have := hbr.size; omega
      have hWt : OwnW wr B (.slice none 0 0) (nodeF d (L.length + 1) 0).wts := .inl ⟨rfl, rfl⟩
      have HLl := hide hLl
      have HLs := hide hLs
      clear hLl hLs
      rw [← HLl.out]
      go_wp2_with (at_builtin; refine app_rec infoStep rfl (by decide) Try.underlying35 rfl _ _ rfl B _ L (by rw [HLl.out]; rfl) hOR [.int .i64 d, .int .i64 (L.length + 1), .int .i64 0, .slice none 0 0] rfl cells4 _ rfl rfl (by omega) (by omega) (by omega) ?_; intro g c W5 hO5 hE5 hz5)
      have E5 : EffE B 70 W W5 := (EffE.of_below hbr).trans hE5
      have S5 : StepsOwn W5 B (.slice (some ⟨g, 0, none⟩) (L.length + 1) c) (l ++ [nodeF d (L.length + 1) 0]) := by
        have := StepsOwn.app HLl.out HLs.out hWt (st := nodeF d (L.length + 1) 0) hO5 hE5
        rw [List.length_append] at this
        exact this
      have X5 : Below w0.heap.size w0 W5 := h0W.trans ((E5.below hBW).mono h0B)
      have hB5 : B ≤ W5.heap.size := by have := E5.size; omega
      have hpd : 2 ^ (d + 1) = 2 ^ d + 2 ^ d := by rw [Nat.pow_succ]; omega
      have HPD := hide hpd
      have C1 := hide (HC.out s (l ++ [nodeF d (L.length + 1) 0]) _ W5 (by rw [HPD.out, ← HT.out]; exact Nat.lt_of_lt_of_le hsT (Nat.le_add_right T T)) (by rw [List.length_append]; exact HP1.out) X5 S5 hB5)
      clear hpd
      refine C1.out.mono ?_
      rintro e W7 ⟨v7, rfl, hS7, hE7⟩
      have hl1 : (l ++ [nodeF d (L.length + 1) 0]).length = l.length + 1 := by simp
      rw [hl1] at hS7
      have gA := (growF_len rows f' (d + 1) s (l.length + 1)).2
      generalize hA : growF rows f' (d + 1) s (l.length + 1) = A at hS7 gA
      have HA' := hide hA
      have HGA := hide gA
      clear hA gA hl1
      obtain ⟨L7, hOR7, hLl7, hLs7⟩ := hS7
      have HL7 : Hid (L7.length = l.length + 1 + A.length) := hide (by rw [hLl7]; simp; omega)
      obtain ⟨g7, c7, rfl⟩ : ∃ g7 c7, v7 = .slice (some ⟨g7, 0, none⟩) L7.length c7 := by
        rcases hOR7.form with ⟨-, e2⟩ | ⟨g, c, cur, e, -⟩
        · rw [e2] at hLl7; simp at hLl7
        · exact ⟨_, _, e⟩
      have hlm : l.length < (l ++ [nodeF d (L.length + 1) 0] ++ A).length := by simp
      have hst : (l ++ [nodeF d (L.length + 1) 0] ++ A).getD l.length st0 = nodeF d (L.length + 1) 0 := by
        rw [List.append_assoc, getD_app_right _ _ _ _ (Nat.le_refl _)]; simp
      have hll : L.length < L7.length := by rw [HL7.out, HLl.out]; omega
      have m2 := hOR7.cell L.length 2 hll (by omega) (u := .int .i64 0) (by
        obtain ⟨wv, hk7, -⟩ := hLs7 l.length hlm
        rw [HLl.out, hk7, hst]; rfl)
      have m4 := hOR7.frozen (L.length * 4 + 2)
      have P8 := StepsOwn.yes hOR7 hLl7 hLs7 l.length hlm (L7.length : Nat)
      have E8 := EffE.setRow hOR7 (j := L.length * 4 + 2) (.int .i64 ((L7.length : Nat) : Int))
      rw [hst, ← HLl.out] at P8
      have hL7b : (L7.length : Int) ≤ 9223372036854775807 := by
        have := HL7.out; have := HGA.out; have := HP1.out; omega
      have e1 : IntKind.i64.wrap ((s : Int) + (T : Int)) = (s : Int) + T := IntWalk.i64_in _ (by omega)
      clear hLl7 hLs7 hst hlm
      go_wp2_with fail
      have hln : (((l ++ [nodeF d (L.length + 1) 0] ++ A).set L.length ⟨(nodeF d (L.length + 1) 0).var, (nodeF d (L.length + 1) 0).no, ((L7.length : Nat) : Int), (nodeF d (L.length + 1) 0).wts⟩)).length = l.length + 1 + A.length := by
        rw [List.length_set]; simp; omega
      have hcast : ((s : Int) + (T : Int)) = ((s + 2 ^ d : Nat) : Int) := by rw [← HT.out]; omega
      have hW7 : B ≤ W7.heap.size := by have := hE7.size; omega
      have hX8 : Below w0.heap.size w0 (W7.setCell ⟨g7, L.length * 4 + 2, none⟩ (.int .i64 ((L7.length : Nat) : Int))) := X5.trans (((hE7.trans E8).below hB5).mono h0B)
      have hlast : s + 2 ^ d < 2 ^ (d + 1) := by rw [HPD.out]; have := HSS.out; exact Nat.add_lt_add_right this _
      have hlen9 : l.length + 1 + A.length + 2 ^ (f' + 1) ≤ 10000 := by
        have h1 := HLEN2.out
        have h2 := HGA.out
        have h3 : 2 ^ (f' + 1 + 1) = 2 ^ (f' + 1) + 2 ^ (f' + 1) := by rw [Nat.pow_succ]; omega
        omega
      have C2 := hide (HC.out (s + 2 ^ d) _ _ _ hlast (by rw [hln]; exact hlen9) hX8 P8 (by simpa [World.setCell] using hW7))
      have HCA := hide hcast
      have HLN := hide hln
      have HL9 := hide hlen9
      clear hcast hln hlen9 hlast
      rw [HCA.out]
      refine C2.out.mono ?_
      rintro e W9 ⟨v9, rfl, hS9, hE9⟩
      rw [HLN.out] at hS9
      obtain ⟨a9, c9, e9⟩ := hS9.form
      generalize List.length _ = m9 at e9
      subst e9
      go_wp2_with fail
      go_ret
      refine ⟨_, rfl, ?_, ((E5.trans hE7).trans E8).trans hE9⟩
      have eset : (l ++ [nodeF d (L.length + 1) 0] ++ A).set L.length ⟨(nodeF d (L.length + 1) 0).var, (nodeF d (L.length + 1) 0).no, ((L7.length : Nat) : Int), (nodeF d (L.length + 1) 0).wts⟩ ++ growF rows f' (d + 1) (s + 2 ^ d) (l.length + 1 + A.length) = l ++ growF rows f d s l.length := by
        rw [HFF.out, growF_node HNB.out, HA'.out, HL7.out, HLl.out, List.append_assoc, List.set_append_right _ _ (Nat.le_refl _)]
        simp [nodeF]
      rw [← eset]
      exact hS9
set_option maxRecDepth 100000 in
theorem plain_any (rows : List RowD) (n : Nat) (hn : n ≤ 12) (hrs : ∀ r ∈ rows, r.coef.length = n ∧ coefsB r.coef = true) (href : ∀ s, s < 2 ^ n → rows.any (badB n s) = true) (rv : Value) (B : Nat) (w0 : World) (hr0 : RowsAt w0 rv rows) (h0B : w0.heap.size ≤ B) :
    ∀ (f d s : Nat) (l : List StepD) (v : Value) (W : World), d + f = n → s < 2 ^ d → l.length + 2 ^ (f + 1) ≤ 10000 → Below w0.heap.size w0 W → StepsOwn W B v l → B ≤ W.heap.size →
      Calls Try.prog 43 #[v, rv, .int .i64 d, .int .i64 s] W (PlainQ B (l ++ growF rows f d s l.length) W)
  | 0, d, s, l, v, W, hdf, hs, hlen, h0W, hS, hBW => by
    obtain rfl : d = n := by omega
    exact plain_step rows d hn hrs rv B w0 hr0 h0B 0 d s l v W (Nat.le_refl _) hs hlen h0W hS hBW (fun h => by rw [href s hs] at h; cases h)
  | f + 1, d, s, l, v, W, hdf, hs, hlen, h0W, hS, hBW =>
    plain_step rows n hn hrs rv B w0 hr0 h0B (f + 1) d s l v W (by omega) hs hlen h0W hS hBW (fun _ => ⟨f, rfl, by omega, fun s l v W h1 h2 h3 h4 h5 => by
      have := plain_any rows n hn hrs href rv B w0 hr0 h0B f (d + 1) s l v W (by omega) h1 h2 h3 h4 h5
      rwa [show ((d + 1 : Nat) : Int) = (d : Int) + 1 from by omega] at this⟩)
end Go.Proofs.Ytcaklldmcbpbfaa
