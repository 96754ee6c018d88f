/- Walks of choices (an iterator), All and Collect of package program. Conditions: how the arguments lie in memory. -/
import Derived.Test.YtppfdjjhloaopaaPw6
import Derived.Test.YtppfdjjhloaopaaIter
namespace Go.Proofs.Ytppfdjjhloaopaa
open Go.RowKit Go.Shelf
attribute [local go_sem] Oper.semAt_some

theorem choices2_any (r : RowD) (cv : Value) (B : Nat) (s : Nat) (w : World) (hv : IntsAt w cv r.coef) (hl : r.coef.length ≤ 13) (hb : coefsB r.coef = true) (hB : w.cell? ⟨B, 0, none⟩ = some (.int .i64 s)) :
    Calls Try.prog 73 #[rowV r cv, .pointer (some ⟨B, 0, none⟩)] w (Ret (.bool (keptB r s)) w) := by
  have hlt : B < w.heap.size := lt_of_cell hB
  go_enter Try.func73, Try.ntmps73
  go_wp2_with (go_at_call 74; refine (kept_any r _ s _ (hv.below (bal _ _)) hl hb).mono ?_; rintro e w' ⟨rfl, hb⟩)
  go_ret
  exact ⟨rfl, below2 (bal _ _) hb⟩
set_option maxRecDepth 100000 in
set_option maxHeartbeats 1000000 in
theorem choices1_in (p : ProgD) (rv : Value) (n l Bp s : Nat) (w0 w W : World) (J Jx : List Nat → World → Prop) (hW : Below w.heap.size w W) (hJ : AbidesFrom W.heap.size J) (hV : validB p = true)
    (hr : RowsAt w0 rv p.rows) (h0 : Below w0.heap.size w0 w) (hs : w0.heap.size ≤ s) (hs' : s ≠ Bp) (c0 : w.cell? ⟨Bp, 0, none⟩ = some (.int .i64 p.vars)) (c1 : w.cell? ⟨Bp, 1, none⟩ = some rv)
    (hY : ∀ pre x W1, J pre W1 → pre.length < 2 ^ p.vars.toNat → YieldAt Fence.wide (n - 1) Try.prog l #[.int .i64 (x : Nat)] W1 fun e W' =>
      (e = .returned (.bool true) ∧ J (pre ++ [x]) W' ∧ KeptBut w.heap.size s W1 W') ∨ (e = .returned (.bool false) ∧ Jx (pre ++ [x]) W')) (hJ0 : J [] W) :
    CallsIn Fence.wide n Try.prog 72 #[.func (.yield l) #[] #[], .pointer (some ⟨Bp, 0, none⟩)] W fun e W' => (∃ v, e = .returned v) ∧
      ((∃ ys, ys = goodF p ∧ J ys W') ∨ (∃ pre, pre <+: goodF p ∧ Jx pre W')) := by
  obtain ⟨v0, v12, hfew, hrs, -, -⟩ := valid_parts hV
  have hpow := pow_bd (n := p.vars.toNat) (by omega)
  obtain ⟨T, hT⟩ : ∃ T : Nat, T = 2 ^ p.vars.toNat := ⟨_, rfl⟩
  have hTc : (2 : Int) ^ p.vars.toNat = (T : Int) := by rw [hT]; simp
  have hTw : wrap64 (2 ^ p.vars.toNat) = (T : Int) := by rw [wrap_id (by omega) (by omega), hTc]
  have hT2 : T ≤ 8192 := by omega
  have HG : Hid (goodF p = goodUp p.rows (2 ^ p.vars.toNat)) := hide rfl
  rw [← hT] at hY
  have HT := hide hT
  clear hT hTc hpow
  have d0 : W.cell? ⟨Bp, 0, none⟩ = some (.int .i64 p.vars) := keep hW c0
  refine callsIn_of_wp Try.func72 rfl trivial ?_ rfl
  simp only [Try.ntmps72, List.size_toArray, List.length_cons, List.length_nil, Nat.reduceAdd, Nat.reduceSub, Array.replicate_succ, Array.replicate_zero, List.push_toArray, List.append_toArray, List.nil_append, List.cons_append]
  have hwf : ∀ f, Fence.wide.fn f = True := fun _ => rfl
  have hwd : Fence.wide.depth.isSome = false := rfl
  gi_wp2
  rw [hTw]
  clear hTw
  gi_loopw [7] (fun i wr => ∃ k : Nat, k ≤ T ∧ i = .int .i64 k ∧ J (goodUp p.rows k) wr ∧ KeptBut w.heap.size s w wr) (fun i _ => T - (intOf i).toNat)
  case atStart => exact ⟨0, by omega, rfl, by simpa [goodUp] using hJ0, KeptBut.of_below hW⟩
  case round =>
    obtain ⟨k, hk, rfl, hJk, hK⟩ := hrel
    by_cases hlt : k < T
    · have hBp : Bp < w.heap.size := lt_of_cell c1
      have hBr : Bp < wr.heap.size := by have := hK.size; omega
      have e1 : wr.cell? ⟨Bp, 1, none⟩ = some rv := (hK.cell hBp (Ne.symm hs')).trans c1
      have hrr := hr.below (hK.below h0 hs h0.size)
      have hba := bal wr (.cells #[.int .i64 k] 3)
      have hO : OnRows 73 #[.pointer (some ⟨wr.heap.size, 0, none⟩)] (keptB · k) p.rows (wr.alloc (.cells #[.int .i64 k] 3)) :=
        fun W' hb' r hr' cv hcv => choices2_any r cv _ k W' hcv (by have := hrs r hr'; omega) (hrs r hr').2.1 (keep hb' (by simp))
      have HO := hide hO
      have HK : Hid (p.rows.all (keptB · k) = keptAll p.rows k) := hide rfl
      have HGU := hide (goodUp_yes (l := p.rows) (k := k))
      have HGN := hide (goodUp_no (l := p.rows) (k := k))
      have hle := goodUp_le p.rows k
      have hJa := hide (fun (W' : World) (hb : Below wr.heap.size wr W') => AbidesFrom.below hJ hJk hb)
      have HY := hide hY
      clear hO hY hrs
      cases hg : keptAll p.rows k
      · gi_wp2_with (gi_at_call 67; refine (callsIn_wide.2 (allrow_any _ _ (Go.Proofs.enters_of Try.func73 (by kernel_rfl) rfl) _ p.rows _ _ (hrr.below hba) HO.out)).mono ?_; rw [HK.out, hg]; rintro e w1 ⟨rfl, hb1⟩)
        go_roundw
        case rel => exact ⟨k + 1, by omega, by go_num, by rw [HGN.out hg]; exact hJa.out _ (below2 hba hb1), hK.trans (KeptBut.of_below ((below2 hba hb1).mono hK.size))⟩
        case measure => simp [intOf]; omega
      · have hbx : (wr.alloc (.cells #[.int .i64 k] 3)).cell? ⟨wr.heap.size, 0, none⟩ = some (.int .i64 k) := by simp
        gi_wp2_with (gi_at_call 67; refine (callsIn_wide.2 (allrow_any _ _ (Go.Proofs.enters_of Try.func73 (by kernel_rfl) rfl) _ p.rows _ _ (hrr.below hba) HO.out)).mono ?_; rw [HK.out, hg]; rintro e w1 ⟨rfl, hb1⟩; have e3 := keep hb1 hbx; obtain ⟨fn, tmps, assign, body, hy, hR⟩ := HY.out _ k _ (hJa.out _ (below2 hba hb1)) (by omega))
        refine hR.mono ?_
        rintro e W3 (⟨rfl, hJ3, hk3⟩ | ⟨rfl, hJx3⟩)
        · gi_wp2
          go_roundw
          case rel => exact ⟨k + 1, by omega, by go_num, by rw [HGU.out hg]; exact hJ3, (hK.trans (KeptBut.of_below ((below2 hba hb1).mono hK.size))).trans hk3⟩
          case measure => simp [intOf]; omega
        · gi_wp2
          refine bodyPost_ret (results_none rfl _ _ _) rfl ?_
          exact ⟨⟨_, rfl⟩, .inr ⟨_, by rw [HG.out, ← HT.out, ← HGU.out hg]; exact goodUp_pre _ hlt, hJx3⟩⟩
    · gi_wp2
      go_end0
      obtain rfl : k = T := by omega
      exact ⟨⟨_, rfl⟩, .inl ⟨_, by rw [HG.out, HT.out], hJk⟩⟩
theorem choices_stops (p : ProgD) (rv : Value) (n Bp s : Nat) (w0 w : World) (hV : validB p = true) (hr : RowsAt w0 rv p.rows) (h0 : Below w0.heap.size w0 w) (hs : w0.heap.size ≤ s) (hs' : s ≠ Bp)
    (c0 : w.cell? ⟨Bp, 0, none⟩ = some (.int .i64 p.vars)) (c1 : w.cell? ⟨Bp, 1, none⟩ = some rv) :
    SeqStopsK Fence.wide n Try.prog 72 #[.pointer (some ⟨Bp, 0, none⟩)] (fun x : Nat => #[.int .i64 x]) (KeptBut w.heap.size s) (fun ys => ys = goodF p) (fun pre => pre <+: goodF p) (2 ^ p.vars.toNat) w :=
  fun l J Jx W hW hJ _ hY hJ0 => choices1_in p rv n l Bp s w0 w W J Jx hW hJ hV hr h0 hs hs' c0 c1 hY hJ0
theorem choices_any (p : ProgD) (rv gv : Value) (w : World) :
    Calls Try.prog 48 #[progV p rv gv] w fun e w' => e = .returned (.func (.func 72) #[] #[.pointer (some ⟨w.heap.size, 0, none⟩)]) ∧ w.alloc (.cells #[.int .i64 p.vars, rv, gv] 27) = w' := by
  go_enter Try.func48, Try.ntmps48
  go_wp2_with fail
  go_ret
  exact ⟨rfl, rfl⟩
set_option maxRecDepth 100000 in
set_option maxHeartbeats 1000000 in
theorem appendseq_any {α : Type} (f : α → Int) (g : Nat) (lb : Array Value) (eg : ∀ args w, (callFunc g args).run Try.prog w = .ok (.enter g args) w) (L : List α) (N : Nat) (w : World) (hN : N ≤ 1000000)
    (hseq : SeqStopsK Fence.wide 9 Try.prog g lb (fun x : α => #[.int .i64 (f x)]) (Below w.heap.size) (fun ys => ys = L) (fun pre => pre <+: L) N (w.alloc (.cells #[.slice none 0 0] 25))) :
    Calls Try.prog 71 #[.slice none 0 0, .func (.func g) #[] lb] w (RetM (fun c v => IntsIn c v (L.map f)) w) := by
  obtain ⟨i0, hi, hz0, hz1, hz2⟩ := info_parts infoInt
  have bO := Boxed.new w 25 (.slice none 0 0)
  have hB0 := bal w (.cells #[.slice none 0 0] 25)
  have hS := hide hseq
  clear hseq
  have hwf : ∀ f, Fence.wide.fn f = True := fun _ => rfl
  have hwd : Fence.wide.depth.isSome = false := rfl
  refine (callsIn_wide (n := 10)).1 ?_
  refine callsIn_of_wp_marks Try.func71 rfl trivial ?_ rfl
  simp only [Try.ntmps71, List.size_toArray, List.length_cons, List.length_nil, Nat.reduceAdd, Nat.reduceSub, Array.replicate_succ, Array.replicate_zero, List.push_toArray, List.append_toArray, List.nil_append, List.cons_append]
  gi_wp2_with fail
  refine wpIn_rangeFunc_ownG rfl (by omega) (gf := g) (lb := lb) rfl trivial eg hS.out (fun h k => h.trans k) (belowK_b (by simp)) (Below.refl _ _) (fun _ => rfl)
    (fun pre W => (∃ v, Boxed W w.heap.size 25 v ∧ W.ownsRow w.heap.size 3 1 v pre.length ((pre.map f).map (Value.int .i64)) ∧ True) ∧ Below w.heap.size w W)
    (fun _ _ _ => False)
    (OwnFrom.and (Own.from (holdsRow_own w.heap.size w.heap.size 25 3 1 (fun pre : List α => pre.length) (fun pre : List α => (pre.map f).map (Value.int .i64)) (fun _ _ => True)) _) (ownFrom_below (Nat.le_refl _) (by simp)))
    (fun _ _ _ _ _ hs _ _ => hs)
    ⟨⟨_, bO, World.ownsRow_nil _ _ _ _, trivial⟩, hB0⟩
    (fun x => { tmps := #[.slice none 0 0, .func (.func g) #[] lb, .pointer (some ⟨w.heap.size, 0, none⟩), undef, .slice none 0 0, .int .i64 (f x), .func (.func g) #[] lb, .int .i64 (f x), undef, undef, undef, undef, undef], defers := [] }) ?assign ?body ?done ?stop
  case assign =>
    intro l x W K hK
    gi_wp2
    exact hK
  case body =>
    rintro l pre x W ⟨⟨v, hv, hrow, -⟩, hB⟩ hlt
    have hc := hv.cell
    have hp2 : pre.length < 1000000 := by omega
    have hle : w.heap.size ≤ w.heap.size := Nat.le_refl _
    gi_wp2_with (gi_at_builtin; refine wpListIn_append_own _ rfl _ _ 25 rfl w.heap.size 3 i0 (.int .i64 0) 1 8 Try.underlying25 hi hz0 hz1 hz2 rfl (by decide) _ _ _ rfl (hrow.alloc _) ⟨W.heap.size, 0, none⟩ 1 1 [.int .i64 (f x)] rfl rfl (cell_one_new _ _ _) (by simp [Value.oneCell']) (by unfold maxLen; omega) (by omega) (by have := hB.size; simp; omega) ?_; intro v' w1 hown' hgrow _; obtain ⟨g', cap', rfl⟩ := ownsRow_succ hown'; obtain ⟨hv1, hv2, hr2, hk2, hb2⟩ := hv.appended (by decide) hrow hB.size hle hown' hgrow; have hc1 := hv1.cell; have hf1 := hv1.frozen)
    exact ⟨hk2.from _, hb2, ⟨_, hv2, by simpa using hr2, trivial⟩, hB.trans hb2⟩
  case done =>
    rintro D ys W hD rfl ⟨⟨v, hv, hrow, -⟩, hB⟩ hK
    have hc := hv.cell
    gi_wp2
    refine ⟨by simp, .inl ⟨_, _, rfl, run_takeDeferred hK, ?_⟩⟩
    exact ⟨_, results_tmp rfl _ _ _, v, rfl, OwnI.intsF (B := w.heap.size) (by have := ownsRow_putObj hrow (.deferred none) hK rfl; simpa [OwnI] using this) (Nat.le_refl _), hB.trans (belowK_b (w := w) (Nat.le_refl _) W D _ _ (by simp at hD; omega) hK rfl rfl)⟩
  case stop =>
    rintro D c pre W _ _ h _
    exact h.elim
set_option maxHeartbeats 400000 in
theorem collect_any {α : Type} (f : α → Int) (g : Nat) (lb : Array Value) (eg : ∀ args w, (callFunc g args).run Try.prog w = .ok (.enter g args) w) (L : List α) (N : Nat) (w : World) (hN : N ≤ 1000000)
    (hseq : SeqStopsK Fence.wide 9 Try.prog g lb (fun x : α => #[.int .i64 (f x)]) (Below w.heap.size) (fun ys => ys = L) (fun pre => pre <+: L) N (w.alloc (.cells #[.slice none 0 0] 25))) :
    Calls Try.prog 47 #[.func (.func g) #[] lb] w (RetM (fun c v => IntsIn c v (L.map f)) w) := by
  have HS := hide hseq
  clear hseq
  go_enter Try.func47, Try.ntmps47
  go_wp2_with (go_at_call 71; refine (appendseq_any f g lb eg L N _ hN HS.out).mono ?_; rintro e w' ⟨v, rfl, hv, hb⟩)
  go_ret
  exact ⟨_, rfl, hv, hb⟩
set_option maxHeartbeats 400000 in
theorem all_any (p : ProgD) (rv gv : Value) (w : World) (hr : RowsAt w rv p.rows) (hg : IntsAt w gv p.gain) :
    Calls Try.prog 27 #[progV p rv gv] w (RetM2 (fun c v u => IntsIn c v (allF p) ∧ u = .int .i64 (errF p)) w) := by
  obtain ⟨w0, hw0, hb0, c0, c1, c2⟩ := boxedProg w p.vars rv gv
  have HW := hide hw0
  rw [← hw0] at hb0 c0 c1 c2
  have hr0 := hr.below hb0
  have hg0 := hg.below hb0
  have HA : Hid (allF p = if validB p then (goodF p).map fun (s : Nat) => (s : Int) else []) := hide rfl
  have HE : Hid (errF p = if validB p then 0 else 330) := hide rfl
  clear hw0
  cases hV : validB p
  · go_enter Try.func27, Try.ntmps27
    go_wp2_with (go_at_call 46; refine (valid_any p _ _ _ hr0 hg0).mono ?_; rw [hV]; rintro e w1 ⟨rfl, hb1⟩)
    go_ret2
    exact ⟨_, _, rfl, ⟨by rw [HA.out, hV]; exact IntsIn.nil _, by rw [HE.out, hV]; rfl⟩, below2 hb0 hb1⟩
  · go_enter Try.func27, Try.ntmps27
    go_wp2_with (go_at_call 46; refine (valid_any p _ _ _ hr0 hg0).mono ?_; rw [hV]; rintro e w1 ⟨rfl, hb1⟩; have d0 := keep hb1 c0; have d1 := keep hb1 c1; have d2 := keep hb1 c2)
    go_wp2_with (go_at_call 48; refine (choices_any p _ _ _).mono ?_; rintro e w2 ⟨rfl, hw2⟩)
    have hb2 : Below w1.heap.size w1 w2 := by rw [← hw2]; exact bal _ _
    have k0 : w2.cell? ⟨w1.heap.size, 0, none⟩ = some (.int .i64 p.vars) := by rw [← hw2]; simp
    have k1 : w2.cell? ⟨w1.heap.size, 1, none⟩ = some rv := by rw [← hw2]; simp
    have hb3 := bal w2 (.cells #[.slice none 0 0] 25)
    have hz2 : w2.heap.size = w1.heap.size + 1 := by rw [← hw2]; simp
    have hseq : SeqStopsK Fence.wide 9 Try.prog 72 #[.pointer (some ⟨w1.heap.size, 0, none⟩)] (fun x : Nat => #[.int .i64 x]) (Below w2.heap.size) (fun ys => ys = goodF p) (fun pre => pre <+: goodF p) (2 ^ p.vars.toNat) (w2.alloc (.cells #[.slice none 0 0] 25)) :=
      SeqStopsK.kp (choices_stops p rv 9 w1.heap.size w2.heap.size w2 _ hV (hr0.below (below2 hb1 hb2)) hb3 (Nat.le_refl _) (by omega) (keep hb3 k0) (keep hb3 k1))
        (fun A B h => by have := KeptBut.of_below' h; simpa using this)
    have HS := hide hseq
    have hN : 2 ^ p.vars.toNat ≤ 1000000 := by
      obtain ⟨v0, v12, -⟩ := valid_parts hV
      have h1 : 2 ^ p.vars.toNat ≤ 2 ^ 12 := Nat.pow_le_pow_right (by omega) (by omega)
      omega
    clear hw2 hz2 hseq
    go_wp2_with (go_at_call 47; refine (collect_any (fun x : Nat => (x : Int)) _ _ (Go.Proofs.enters_of Try.func72 (by kernel_rfl) rfl) (goodF p) _ _ hN HS.out).mono ?_; rintro e w3 ⟨v, rfl, hv, hb4⟩)
    go_ret2
    exact ⟨_, _, rfl, ⟨by rw [HA.out, hV]; exact hv.keeps (keeps_frm_le _ (below2 hb0 (below2 hb1 hb2)).size), by rw [HE.out, hV]; rfl⟩, below2 hb0 (below2 hb1 (below2 hb2 hb4))⟩
end Go.Proofs.Ytppfdjjhloaopaa
