/- Walk of walk of package proof, which calls itself. Conditions: how the checker, the program and the proof lie in memory; sizes; that the rows' numbers are bounded. -/
import Derived.Test.YtppfdjjhloaopaaPfB
import Derived.Test.YtppfdjjhloaopaaPfW
import Derived.Deep.DeepCutAuto
namespace Go.Proofs.Ytppfdjjhloaopaa
open Go.RowKit

/-- how many things are open -/
def openN (dec : List Int) : Nat := dec.countP fun x => decide (x < 0)
theorem openN_set : ∀ {dec : List Int} {v : Nat} {x : Int}, v < dec.length → dec.getD v 0 < 0 → 0 ≤ x → openN (dec.set v x) + 1 = openN dec
  | [], v, x, h, _, _ => by simp at h
  | d :: t, 0, x, _, h, hx => by
    have h1 : d < 0 := by simpa using h
    have h2 : ¬ x < 0 := by omega
    simp [openN, h1, h2]
  | d :: t, v + 1, x, h, h1, hx => by
    have ih := openN_set (dec := t) (v := v) (x := x) (by simpa using h) (by simpa using h1) hx
    simp only [openN, List.set_cons_succ, List.countP_cons] at ih ⊢
    omega
/-- what a walk from a step on leaves -/
def WalkQ (bm n : Nat) (ks : List Int) (r : Int) (k' : Nat) (us : List Int) (w : World) (e : Ending) (w' : World) : Prop :=
  w.grownBy w' (some bm) ∧ ((r = -1 ∧ e = .returned (.tuple #[]) ∧ OwnM w' bm (n + k') (ks ++ us)) ∨ (r ≠ -1 ∧ e = .panicked (wrongC r)))
theorem partsB_is (st : StepD) (a : Nat) (m : Nat) (dec : List Int) (hl : dec.length ≤ 12) :
    partsB st a m dec = (isInB 0 st.var (dec.length - 1) && decide ((encD dec).getD st.var.toNat 0 = 0) && decide (st.wts.length = 0) && (isInB (a + 1) st.no (m - 1) && isInB (a + 1) st.yes (m - 1))) := by
  by_cases h : 0 ≤ st.var ∧ st.var < dec.length
  · have h1 := encD_open (dec := dec) (v := st.var.toNat) (by omega) hl
    unfold partsB isInB
    rw [h1]
    rw [Bool.eq_iff_iff]; simp only [Bool.and_eq_true, decide_eq_true_eq]
    constructor
    · rintro ⟨⟨⟨⟨⟨h1, h2⟩, h3⟩, h4, h5⟩, h6, h7⟩, h8⟩; exact ⟨⟨⟨⟨h1, by omega⟩, h8⟩, h3⟩, ⟨by omega, by omega⟩, by omega, by omega⟩
    · rintro ⟨⟨⟨⟨h1, h2⟩, h8⟩, h3⟩, ⟨h4, h5⟩, h6, h7⟩; exact ⟨⟨⟨⟨⟨h1, by omega⟩, h3⟩, by omega, by omega⟩, by omega, by omega⟩, h8⟩
  · have e1 : (decide (0 ≤ st.var) && decide (st.var < dec.length)) = false := by
      rw [Bool.eq_false_iff]; intro h2; simp only [Bool.and_eq_true, decide_eq_true_eq] at h2; exact h h2
    have e2 : isInB 0 st.var (dec.length - 1) = false := by
      unfold isInB; rw [Bool.eq_false_iff]; intro h; simp only [decide_eq_true_eq] at h; omega
    unfold partsB
    rw [e1, e2]; simp
theorem dec_stored {w : World} {b V : Nat} {dec : List Int} {x c : Int} {T : TypeId} (h : Blk w b (decL (encD dec)) T) (hV : V < dec.length) (hV2 : V < 12) (hc : codeD x = c) : Blk (w.setCell ⟨b, V, none⟩ (.int .i64 c)) b (decL (encD (dec.set V x))) T := by
  have h1 := h.set V (.int .i64 c)
  rwa [decL_set (encD_len dec) hV2, ← hc, ← encD_set hV, hc] at h1
set_option maxRecDepth 20000 in
set_option maxHeartbeats 4000000 in
theorem walk_leaf (rows : List RowD) (l : List StepD) (dec : List Int) (hl : dec.length ≤ 12) (hro : RowsOk rows dec.length) (hrl : rows.length ≤ 1000) (a : Nat) (ha : a < l.length) (hll : l.length ≤ 1000000)
    (bc bm n : Nat) (ks : List Int) (hn : n < 900000) (rv sv : Value) (w : World) (hC : Blk w bc [.int .i64 dec.length, rv, sv, .map (some bm)] 101) (hr : RowsAt w rv rows) (hs : StepsIn w.cell? sv l) (hm : OwnM w bm n ks) (hv : (l.getD a st0).var = -1) :
    Calls Try.prog 61 #[.pointer (some ⟨bc, 0, none⟩), .int .i64 a, decV (encD dec)] w (LeafQ bm n ks (leafB rows (l.getD a st0) dec) a 8 ((l.getD a st0).wts.map (·.1)) w) := by
  have HLF : Hid (∀ W, Below w.heap.size w W → Calls Try.prog 84 #[.pointer (some ⟨bc, 0, none⟩), .int .i64 a, .agg #[.int .i64 ((encD dec).getD 0 0), .int .i64 ((encD dec).getD 1 0), .int .i64 ((encD dec).getD 2 0), .int .i64 ((encD dec).getD 3 0), .int .i64 ((encD dec).getD 4 0), .int .i64 ((encD dec).getD 5 0), .int .i64 ((encD dec).getD 6 0), .int .i64 ((encD dec).getD 7 0), .int .i64 ((encD dec).getD 8 0), .int .i64 ((encD dec).getD 9 0), .int .i64 ((encD dec).getD 10 0), .int .i64 ((encD dec).getD 11 0)]] W (LeafQ bm n ks (leafB rows (l.getD a st0) dec) a 8 ((l.getD a st0).wts.map (·.1)) W)) :=
    hide fun W hb => leaf_any rows l dec hl hro hrl a ha hll bc bm n ks hn rv sv W (hC.later hb) (hr.below hb) (hs.keeps (keeps_of_below hb)) (hm.later hb)
  obtain ⟨sa, sc, rfl, -, hsm, hsk⟩ := id hs
  obtain ⟨sb, so, wv, rfl, hS⟩ := hsk a ha
  obtain ⟨s0, s1, s2, s3, hW⟩ := hS
  obtain ⟨wa, wc, rfl, hwn, hwm, -⟩ := id hW
  have c0 := hC.cell 0 rfl
  have c1 := hC.cell 1 rfl
  have c2 := hC.cell 2 rfl
  have c3 := hC.cell 3 rfl
  have hlc := hC.lt
  have hls := lt_of_cell s0
  have had : decide (a < l.length) = true := by simpa using ha
  clear hsk hW
  generalize leafB rows (l.getD a st0) dec = LB at HLF ⊢
  generalize l.getD a st0 = s at *
  obtain ⟨svr, sno, sye, ws⟩ := s
  dsimp only at *
  subst hv
  show Calls _ _ #[_, _, .agg #[.int .i64 ((encD dec).getD 0 0), .int .i64 ((encD dec).getD 1 0), .int .i64 ((encD dec).getD 2 0), .int .i64 ((encD dec).getD 3 0), .int .i64 ((encD dec).getD 4 0), .int .i64 ((encD dec).getD 5 0), .int .i64 ((encD dec).getD 6 0), .int .i64 ((encD dec).getD 7 0), .int .i64 ((encD dec).getD 8 0), .int .i64 ((encD dec).getD 9 0), .int .i64 ((encD dec).getD 10 0), .int .i64 ((encD dec).getD 11 0)]] _ _
  have HD : Hid (∀ k, k < 12 → ([.int .i64 ((encD dec).getD 0 0), .int .i64 ((encD dec).getD 1 0), .int .i64 ((encD dec).getD 2 0), .int .i64 ((encD dec).getD 3 0), .int .i64 ((encD dec).getD 4 0), .int .i64 ((encD dec).getD 5 0), .int .i64 ((encD dec).getD 6 0), .int .i64 ((encD dec).getD 7 0), .int .i64 ((encD dec).getD 8 0), .int .i64 ((encD dec).getD 9 0), .int .i64 ((encD dec).getD 10 0), .int .i64 ((encD dec).getD 11 0)] : List Value)[k]? = some (.int .i64 ((encD dec).getD k 0))) := hide (fun k h => decL_get (encD dec) h)
  generalize (encD dec).getD 0 0 = d0 at HLF HD ⊢
  generalize (encD dec).getD 1 0 = d1 at HLF HD ⊢
  generalize (encD dec).getD 2 0 = d2 at HLF HD ⊢
  generalize (encD dec).getD 3 0 = d3 at HLF HD ⊢
  generalize (encD dec).getD 4 0 = d4 at HLF HD ⊢
  generalize (encD dec).getD 5 0 = d5 at HLF HD ⊢
  generalize (encD dec).getD 6 0 = d6 at HLF HD ⊢
  generalize (encD dec).getD 7 0 = d7 at HLF HD ⊢
  generalize (encD dec).getD 8 0 = d8 at HLF HD ⊢
  generalize (encD dec).getD 9 0 = d9 at HLF HD ⊢
  generalize (encD dec).getD 10 0 = d10 at HLF HD ⊢
  generalize (encD dec).getD 11 0 = d11 at HLF HD ⊢
  go_enter Try.func61, Try.ntmps61
  go_wp2_with fail
  have svr : Int := -1
  generalize hX1 : World.alloc w _ = X1
  have zX1 : X1.heap.size = w.heap.size + 1 := by rw [← hX1]; simp
  have bX1 : Below w.heap.size w X1 := by rw [← hX1]; exact bal w _
  have bD_1 : Blk X1 (w.heap.size) [.int .i64 d0, .int .i64 d1, .int .i64 d2, .int .i64 d3, .int .i64 d4, .int .i64 d5, .int .i64 d6, .int .i64 d7, .int .i64 d8, .int .i64 d9, .int .i64 d10, .int .i64 d11] 105 := by rw [← hX1]; exact Blk.newA w _ (by first | rfl | simp)
  generalize hX2 : World.alloc X1 _ = X2
  have zX2 : X2.heap.size = w.heap.size + 1 + 1 := by rw [← hX2]; simp [zX1]
  have bX2 : Below X1.heap.size X1 X2 := by rw [← hX2]; exact bal X1 _
  have bS : Blk X2 (w.heap.size + 1) [.int .i64 (-1), .int .i64 sno, .int .i64 sye, .slice wa ws.length wc] 54 := by rw [← hX2, ← zX1]; exact Blk.newA X1 _ (by first | rfl | simp)
  have bD := bD_1.later bX2
  have Xb := below2 (bX1) bX2
  have Xz := zX2
  clear hX1 zX1 bX1 hX2 zX2 bX2 bD_1
  refine (HLF.out X2 Xb).mono ?_
  rintro e w1 ⟨hg, ⟨h1, rfl, hM⟩ | ⟨h1, rfl⟩⟩
  · have HG : Hid (w.grownBy w1 (some bm)) := hide (Grown.trans (Grown.of Xb bm) hg)
    have H1 := hide h1
    have HM := hide hM
    clear hg h1 hM
    go_wp2_with fail
    first | go_end0 | skip
    exact ⟨HG.out, .inl ⟨H1.out, rfl, HM.out⟩⟩
  · exact ⟨rfl, Grown.trans (Grown.of Xb bm) hg, .inr ⟨h1, rfl⟩⟩
theorem eq_decL {xs : List Value} {e : List Int} (hl : xs.length = 12) (h : ∀ k, k < 12 → xs[k]? = some (.int .i64 (e.getD k 0))) : xs = decL e := by
  refine List.ext_getElem? fun k => ?_
  by_cases hk : k < 12
  · rw [h k hk, decL_get _ hk]
  · rw [List.getElem?_eq_none (by omega), List.getElem?_eq_none (by rw [decL_len]; omega)]
theorem isInB_iff {lo x hi : Int} : isInB lo x hi = true ↔ lo ≤ x ∧ x ≤ hi := by simp [isInB]
set_option maxRecDepth 20000 in
set_option maxHeartbeats 4000000 in
theorem walk_node (rows : List RowD) (l : List StepD) (dec : List Int) (hl : dec.length ≤ 12) (a : Nat) (ha : a < l.length) (hll : l.length ≤ 1000000) (f o : Nat)
    (bc bm n : Nat) (ks : List Int) (rv sv : Value) (w : World) (hC : Blk w bc [.int .i64 dec.length, rv, sv, .map (some bm)] 101) (hs : StepsIn w.cell? sv l) (hm : OwnM w bm n ks) (hv : (l.getD a st0).var ≠ -1) (ho : openN dec ≤ o)
    (hIH : ∀ (o' a' : Nat) (dec' : List Int) (n' : Nat) (ks' : List Int) (W : World), o' + 1 = o → a < a' → a' < l.length → dec'.length = dec.length → openN dec' ≤ o' → n' ≤ n + 8 * 2 ^ o' → w.grownBy W (some bm) → OwnM W bm n' ks' →
      Calls Try.prog 61 #[.pointer (some ⟨bc, 0, none⟩), .int .i64 a', decV (encD dec')] W (WalkQ bm n' ks' (wrongF rows l f a' dec') (8 * 2 ^ o') (reachF l f a') W)) :
    Calls Try.prog 61 #[.pointer (some ⟨bc, 0, none⟩), .int .i64 a, decV (encD dec)] w (WalkQ bm n ks (wrongF rows l (f + 1) a dec) (8 * 2 ^ o) (reachF l (f + 1) a) w) := by
  have HIH := hide hIH
  have HO := hide ho
  have HPA0 := partsB_is (l.getD a st0) a l.length dec hl
  have HW0 : Hid (wrongF rows l (f + 1) a dec = if partsB (l.getD a st0) a l.length dec then (if 0 ≤ wrongF rows l f (l.getD a st0).no.toNat (dec.set (l.getD a st0).var.toNat 0) then wrongF rows l f (l.getD a st0).no.toNat (dec.set (l.getD a st0).var.toNat 0) else wrongF rows l f (l.getD a st0).yes.toNat (dec.set (l.getD a st0).var.toNat 1)) else (a : Int)) :=
    hide (by simp only [wrongF]; rw [if_neg hv])
  have HRE : Hid (reachF l (f + 1) a = reachF l f (l.getD a st0).no ++ reachF l f (l.getD a st0).yes) := hide (by simp only [reachF, Int.toNat_natCast]; rw [if_neg hv])
  clear hIH ho
  obtain ⟨sa, sc, rfl, -, hsm, hsk⟩ := id hs
  obtain ⟨sb, so, wv, rfl, hS⟩ := hsk a ha
  obtain ⟨s0, s1, s2, s3, hW⟩ := hS
  obtain ⟨wa, wc, rfl, hwn, hwm, -⟩ := id hW
  have c0 := hC.cell 0 rfl
  have c1 := hC.cell 1 rfl
  have c2 := hC.cell 2 rfl
  have c3 := hC.cell 3 rfl
  have hlc := hC.lt
  have hls := lt_of_cell s0
  have had : decide (a < l.length) = true := by simpa using ha
  clear hsk hW
  generalize l.getD a st0 = s at *
  obtain ⟨svr, sno, sye, ws⟩ := s
  dsimp only at *
  have hwl : (ws.length : Int) ≤ 9223372036854775807 := by have : ws.length ≤ wc := hwn; omega
  have q0 : (svr == -1) = false := by simpa using hv
  have HPA := hide HPA0
  clear hv HPA0
  have HLE : Hid (decL (encD dec) = [.int .i64 ((encD dec).getD 0 0), .int .i64 ((encD dec).getD 1 0), .int .i64 ((encD dec).getD 2 0), .int .i64 ((encD dec).getD 3 0), .int .i64 ((encD dec).getD 4 0), .int .i64 ((encD dec).getD 5 0), .int .i64 ((encD dec).getD 6 0), .int .i64 ((encD dec).getD 7 0), .int .i64 ((encD dec).getD 8 0), .int .i64 ((encD dec).getD 9 0), .int .i64 ((encD dec).getD 10 0), .int .i64 ((encD dec).getD 11 0)]) := hide rfl
  show Calls _ _ #[_, _, .agg #[.int .i64 ((encD dec).getD 0 0), .int .i64 ((encD dec).getD 1 0), .int .i64 ((encD dec).getD 2 0), .int .i64 ((encD dec).getD 3 0), .int .i64 ((encD dec).getD 4 0), .int .i64 ((encD dec).getD 5 0), .int .i64 ((encD dec).getD 6 0), .int .i64 ((encD dec).getD 7 0), .int .i64 ((encD dec).getD 8 0), .int .i64 ((encD dec).getD 9 0), .int .i64 ((encD dec).getD 10 0), .int .i64 ((encD dec).getD 11 0)]] _ _
  clear c1 c3
  generalize (encD dec).getD 0 0 = d0 at HLE ⊢
  generalize (encD dec).getD 1 0 = d1 at HLE ⊢
  generalize (encD dec).getD 2 0 = d2 at HLE ⊢
  generalize (encD dec).getD 3 0 = d3 at HLE ⊢
  generalize (encD dec).getD 4 0 = d4 at HLE ⊢
  generalize (encD dec).getD 5 0 = d5 at HLE ⊢
  generalize (encD dec).getD 6 0 = d6 at HLE ⊢
  generalize (encD dec).getD 7 0 = d7 at HLE ⊢
  generalize (encD dec).getD 8 0 = d8 at HLE ⊢
  generalize (encD dec).getD 9 0 = d9 at HLE ⊢
  generalize (encD dec).getD 10 0 = d10 at HLE ⊢
  generalize (encD dec).getD 11 0 = d11 at HLE ⊢
  obtain ⟨n0, hn0⟩ : ∃ n0, dec.length = n0 := ⟨_, rfl⟩
  go_enter Try.func61, Try.ntmps61
  go_wp2_with fail
  generalize hX1 : World.alloc w _ = X1
  have zX1 : X1.heap.size = w.heap.size + 1 := by rw [← hX1]; simp
  have bX1 : Below w.heap.size w X1 := by rw [← hX1]; exact bal w _
  have bD_1 : Blk X1 (w.heap.size) [.int .i64 d0, .int .i64 d1, .int .i64 d2, .int .i64 d3, .int .i64 d4, .int .i64 d5, .int .i64 d6, .int .i64 d7, .int .i64 d8, .int .i64 d9, .int .i64 d10, .int .i64 d11] 105 := by rw [← hX1]; exact Blk.newA w _ (by first | rfl | simp)
  generalize hX2 : World.alloc X1 _ = X2
  have zX2 : X2.heap.size = w.heap.size + 1 + 1 := by rw [← hX2]; simp [zX1]
  have bX2 : Below X1.heap.size X1 X2 := by rw [← hX2]; exact bal X1 _
  have bS : Blk X2 (w.heap.size + 1) [.int .i64 svr, .int .i64 sno, .int .i64 sye, .slice wa ws.length wc] 54 := by rw [← hX2, ← zX1]; exact Blk.newA X1 _ (by first | rfl | simp)
  have bD := bD_1.later bX2
  have Xb := below2 (bX1) bX2
  have Xz := zX2
  clear hX1 zX1 bX1 hX2 zX2 bX2 bD_1
  have t0 := bS.cell 0 rfl
  have t3 := bS.cell 3 rfl
  have x0 := keep Xb c0
  have HNOT := hide (fun (h : partsB ⟨svr, sno, sye, ws⟩ a l.length dec = false) => show wrongF rows l (f + 1) a dec = (a : Int) by rw [HW0.out, h]; rfl)
  refine walk_reg4 bc a dec.length w.heap.size (w.heap.size + 1) ws.length wc wa svr ((encD dec).getD svr.toNat 0) _ hl X2 rfl x0 t0 t3 (fun V hV hlt => by
    rw [hV, Int.toNat_natCast]
    exact bD.cell V (by rw [← HLE.out]; exact decL_get _ (by omega))) _ _ _ _ _ _ _ _ _ _ _ _ _ _ _ _ _ _ _ _ _ _ _ _ _ _ _ _ _ _ _ _ _ _ _ _ _ _ _ _ _ _ _ _ _ _ _ _ _ _ _ _ _ _ _ _ _ _ _ _ _ _ _ _ _ _ _ _ _ _ _ _ _ _ _ _ _ _ _ _ _ _ _ ?_ ?_
  · intro hok t21 t22 t23 t24 t25 t26 t27 t28 t29 t30 t31 t32 t33 t34 t35 t36 t37 t38 t39 t40 t41 t42 t43
    simp only [Bool.and_eq_true, decide_eq_true_eq] at hok
    obtain ⟨⟨hi, hE⟩, hw0⟩ := hok
    simp only [isInB, decide_eq_true_eq] at hi
    obtain ⟨V, rfl⟩ : ∃ V : Nat, svr = (V : Int) := ⟨svr.toNat, by omega⟩
    have hV : V < dec.length := by omega
    have hV2 : V < 12 := by omega
    rw [Int.toNat_natCast] at hE
    have hDo : dec.getD V 0 < 0 := by
      have h1 := encD_open hV hl
      rw [hE] at h1
      simpa using h1.symm
    have hos := openN_set (x := 0) hV hDo (by omega)
    have hos1 := openN_set (x := 1) hV hDo (by omega)
    have hoo := HO.out
    obtain ⟨o', rfl⟩ : ∃ o', o = o' + 1 := ⟨o - 1, by omega⟩
    have HOS0 : Hid (openN (dec.set V 0) ≤ o') := hide (by omega)
    have HOS1 : Hid (openN (dec.set V 1) ≤ o') := hide (by omega)
    have HPA : Hid (partsB ⟨V, sno, sye, ws⟩ a l.length dec = (isInB (a + 1) sno (l.length - 1) && isInB (a + 1) sye (l.length - 1))) := hide (by rw [HPA.out, Int.toNat_natCast, hE, hw0]; simp [isInB]; omega)
    have hV12 : ((V : Int) < 12) = True := eq_true (by omega)
    have HV := hide hV
    clear hi hE hw0 hDo hos hos1 hoo
    obtain ⟨X3, hX3⟩ : ∃ X3, World.drew X2 = X3 := ⟨_, rfl⟩
    rw [hX3]
    have b3 : Below X2.heap.size X2 X3 := by rw [← hX3]; exact (Below.refl _ _).drew
    replace bD := bD.later b3
    replace bS := bS.later b3
    replace t0 := bS.cell 0 rfl
    have t1 := bS.cell 1 rfl
    have t2 := bS.cell 2 rfl
    have x2 := keep (below2 Xb b3) c2
    replace Xb := below2 Xb b3
    clear hX3 b3 t3 x0 c0 c2
    go_wp2_with fail
    refine walk_reg5 bc a w.heap.size (w.heap.size + 1) l.length sc _ sno sye _ _ (by omega) (by omega) X3 rfl rfl x2 t1 t2 _ _ _ _ _ _ _ _ _ _ _ _ _ _ _ _ _ _ _ _ _ _ _ _ _ _ _ _ _ _ _ _ _ _ _ _ _ _ _ _ _ _ _ _ _ _ _ _ _ _ _ _ _ _ _ _ _ _ _ _ _ _ _ _ _ _ _ _ _ _ _ _ _ _ _ _ _ _ _ _ _ _ _ ?_ ?_
    · intro hok t44 t45 t46 t47 t48 t49 t50 t51 t52 t53 t54 t55 t56 t57 t58 t59 t60 t61 t62 t63 t64 t65 t66 t67 t68 t69
      simp only [Bool.and_eq_true] at hok
      have HPY := hide (show partsB ⟨(V : Int), sno, sye, ws⟩ a l.length dec = true by rw [HPA.out, hok.1, hok.2]; rfl)
      have h4 := hok.1
      have h5 := hok.2
      simp only [isInB, decide_eq_true_eq] at h4 h5
      obtain ⟨N1, rfl⟩ : ∃ N1 : Nat, sno = (N1 : Int) := ⟨sno.toNat, by omega⟩
      obtain ⟨N2, rfl⟩ : ∃ N2 : Nat, sye = (N2 : Int) := ⟨sye.toNat, by omega⟩
      have HN1 : Hid (a < N1 ∧ N1 < l.length) := hide (by omega)
      have HN2 : Hid (a < N2 ∧ N2 < l.length) := hide (by omega)
      have HWP : Hid (wrongF rows l (f + 1) a dec = if 0 ≤ wrongF rows l f N1 (dec.set V 0) then wrongF rows l f N1 (dec.set V 0) else wrongF rows l f N2 (dec.set V 1)) := hide (by rw [HW0.out, HPY.out, if_pos rfl]; rfl)
      clear h4 h5 hok HW0 HPA HPY HNOT x2 ha had
      obtain ⟨X4, hX4⟩ : ∃ X4, World.drew X3 = X4 := ⟨_, rfl⟩
      rw [hX4]
      have b4 : Below X3.heap.size X3 X4 := by rw [← hX4]; exact (Below.refl _ _).drew
      replace bD := bD.later b4
      replace bS := bS.later b4
      replace t0 := bS.cell 0 rfl
      replace t1 := bS.cell 1 rfl
      replace Xb := below2 Xb b4
      clear hX4 b4 t2 hll hl hsm hwm hwn hwl s0 s1 s2 s3 q0
      have fV := bD.frozen V
      rw [← HLE.out] at bD
      have bD1 := dec_stored (x := 0) (c := -1) bD HV.out hV2 rfl
      have tV := bD.cell V (decL_get _ hV2)
      have bS1 := bS.other (show w.heap.size + 1 ≠ w.heap.size by omega) V (.int .i64 (-1))
      have bX1 := Grown.set (Grown.of Xb bm) (Nat.le_refl _) V (.int .i64 (-1))
      have hm1 := (hm.later Xb).set (show w.heap.size ≠ bm by have := hm.lt; omega) V (.int .i64 (-1))
      have HML := hide hm.lt
      clear hm hlc hls
      go_upto_region 7 with (fail)
      generalize World.setCell X4 ⟨w.heap.size, V, none⟩ (.int .i64 (-1)) = W1 at bD1 bS1 bX1 hm1 ⊢
      clear bD bS fV t0 t1 tV HLE
      have t1 := bS1.cell 1 rfl
      have HR1 : Hid (Calls Try.prog 61 #[.pointer (some ⟨bc, 0, none⟩), .int .i64 N1, .agg #[.int .i64 ((encD (dec.set V 0)).getD 0 0), .int .i64 ((encD (dec.set V 0)).getD 1 0), .int .i64 ((encD (dec.set V 0)).getD 2 0), .int .i64 ((encD (dec.set V 0)).getD 3 0), .int .i64 ((encD (dec.set V 0)).getD 4 0), .int .i64 ((encD (dec.set V 0)).getD 5 0), .int .i64 ((encD (dec.set V 0)).getD 6 0), .int .i64 ((encD (dec.set V 0)).getD 7 0), .int .i64 ((encD (dec.set V 0)).getD 8 0), .int .i64 ((encD (dec.set V 0)).getD 9 0), .int .i64 ((encD (dec.set V 0)).getD 10 0), .int .i64 ((encD (dec.set V 0)).getD 11 0)]] W1 (WalkQ bm n ks (wrongF rows l f N1 (dec.set V 0)) (8 * 2 ^ o') (reachF l f N1) W1)) :=
        hide (HIH.out o' N1 (dec.set V 0) n ks W1 rfl HN1.out.1 HN1.out.2 (by simp) HOS0.out (by omega) bX1 hm1)
      have hle1 := hide (show decL (encD (dec.set V 0)) = [.int .i64 ((encD (dec.set V 0)).getD 0 0), .int .i64 ((encD (dec.set V 0)).getD 1 0), .int .i64 ((encD (dec.set V 0)).getD 2 0), .int .i64 ((encD (dec.set V 0)).getD 3 0), .int .i64 ((encD (dec.set V 0)).getD 4 0), .int .i64 ((encD (dec.set V 0)).getD 5 0), .int .i64 ((encD (dec.set V 0)).getD 6 0), .int .i64 ((encD (dec.set V 0)).getD 7 0), .int .i64 ((encD (dec.set V 0)).getD 8 0), .int .i64 ((encD (dec.set V 0)).getD 9 0), .int .i64 ((encD (dec.set V 0)).getD 10 0), .int .i64 ((encD (dec.set V 0)).getD 11 0)] from rfl)
      have bD1 : Blk W1 w.heap.size [.int .i64 ((encD (dec.set V 0)).getD 0 0), .int .i64 ((encD (dec.set V 0)).getD 1 0), .int .i64 ((encD (dec.set V 0)).getD 2 0), .int .i64 ((encD (dec.set V 0)).getD 3 0), .int .i64 ((encD (dec.set V 0)).getD 4 0), .int .i64 ((encD (dec.set V 0)).getD 5 0), .int .i64 ((encD (dec.set V 0)).getD 6 0), .int .i64 ((encD (dec.set V 0)).getD 7 0), .int .i64 ((encD (dec.set V 0)).getD 8 0), .int .i64 ((encD (dec.set V 0)).getD 9 0), .int .i64 ((encD (dec.set V 0)).getD 10 0), .int .i64 ((encD (dec.set V 0)).getD 11 0)] 105 := bD1
      generalize (encD (dec.set V 0)).getD 0 0 = e0 at hle1 HR1 bD1
      generalize (encD (dec.set V 0)).getD 1 0 = e1 at hle1 HR1 bD1
      generalize (encD (dec.set V 0)).getD 2 0 = e2 at hle1 HR1 bD1
      generalize (encD (dec.set V 0)).getD 3 0 = e3 at hle1 HR1 bD1
      generalize (encD (dec.set V 0)).getD 4 0 = e4 at hle1 HR1 bD1
      generalize (encD (dec.set V 0)).getD 5 0 = e5 at hle1 HR1 bD1
      generalize (encD (dec.set V 0)).getD 6 0 = e6 at hle1 HR1 bD1
      generalize (encD (dec.set V 0)).getD 7 0 = e7 at hle1 HR1 bD1
      generalize (encD (dec.set V 0)).getD 8 0 = e8 at hle1 HR1 bD1
      generalize (encD (dec.set V 0)).getD 9 0 = e9 at hle1 HR1 bD1
      generalize (encD (dec.set V 0)).getD 10 0 = e10 at hle1 HR1 bD1
      generalize (encD (dec.set V 0)).getD 11 0 = e11 at hle1 HR1 bD1
      have z0 := bD1.cell 0 rfl
      have z1 := bD1.cell 1 rfl
      have z2 := bD1.cell 2 rfl
      have z3 := bD1.cell 3 rfl
      have z4 := bD1.cell 4 rfl
      have z5 := bD1.cell 5 rfl
      have z6 := bD1.cell 6 rfl
      have z7 := bD1.cell 7 rfl
      have z8 := bD1.cell 8 rfl
      have z9 := bD1.cell 9 rfl
      have z10 := bD1.cell 10 rfl
      have z11 := bD1.cell 11 rfl
      go_wp2_with fail
      clear z0 z1 z2 z3 z4 z5 z6 z7 z8 z9 z10 z11
      refine HR1.out.mono ?_
      have HRG := hide (wrongF_range rows l f N1 (dec.set V 0))
      generalize wrongF rows l f N1 (dec.set V 0) = r1 at HWP HRG
      rintro e W5 ⟨hg5, ⟨h1, rfl, hM5⟩ | ⟨h1, rfl⟩⟩
      · subst h1
        have HWR : Hid (wrongF rows l (f + 1) a dec = wrongF rows l f N2 (dec.set V 1)) := hide (by rw [HWP.out, if_neg (by omega)])
        have hbm := HML.out
        have bD5 : Blk W5 w.heap.size _ 105 := (hg5.block _ bD1.lt (by simp; omega)).trans bD1
        have bS5 : Blk W5 (w.heap.size + 1) _ 54 := (hg5.block _ bS1.lt (by simp; omega)).trans bS1
        rw [← hle1.out] at bD5
        have bX5 := Grown.trans bX1 hg5
        have bD6 := dec_stored (x := 1) (c := 1) bD5 (by rw [List.length_set]; exact HV.out) hV2 rfl
        rw [List.set_set] at bD6
        have bS6 := bS5.other (show w.heap.size + 1 ≠ w.heap.size by omega) V (.int .i64 1)
        have bX6 := Grown.set bX5 (Nat.le_refl _) V (.int .i64 1)
        have hm6 := hM5.set (show w.heap.size ≠ bm by omega) V (.int .i64 1)
        have tV := bD5.cell V (decL_get _ hV2)
        have fV := bD5.frozen V
        have t0 := bS5.cell 0 rfl
        clear t1 bD1 bS1 bX1 hm1 HR1 HWP HRG hg5 hle1 hM5 bX5 hbm
        go_upto_region 9 with (fail)
        generalize World.setCell W5 ⟨w.heap.size, V, none⟩ (.int .i64 1) = W6 at bD6 bS6 bX6 hm6 ⊢
        clear bD5 bS5 fV tV t0
        have t2 := bS6.cell 2 rfl
        have HR2 : Hid (Calls Try.prog 61 #[.pointer (some ⟨bc, 0, none⟩), .int .i64 N2, .agg #[.int .i64 ((encD (dec.set V 1)).getD 0 0), .int .i64 ((encD (dec.set V 1)).getD 1 0), .int .i64 ((encD (dec.set V 1)).getD 2 0), .int .i64 ((encD (dec.set V 1)).getD 3 0), .int .i64 ((encD (dec.set V 1)).getD 4 0), .int .i64 ((encD (dec.set V 1)).getD 5 0), .int .i64 ((encD (dec.set V 1)).getD 6 0), .int .i64 ((encD (dec.set V 1)).getD 7 0), .int .i64 ((encD (dec.set V 1)).getD 8 0), .int .i64 ((encD (dec.set V 1)).getD 9 0), .int .i64 ((encD (dec.set V 1)).getD 10 0), .int .i64 ((encD (dec.set V 1)).getD 11 0)]] W6 (WalkQ bm (n + 8 * 2 ^ o') (ks ++ reachF l f N1) (wrongF rows l f N2 (dec.set V 1)) (8 * 2 ^ o') (reachF l f N2) W6)) :=
          hide (HIH.out o' N2 (dec.set V 1) (n + 8 * 2 ^ o') (ks ++ reachF l f N1) W6 rfl HN2.out.1 HN2.out.2 (by simp) HOS1.out (Nat.le_refl _) bX6 hm6)
        have bD6 : Blk W6 w.heap.size [.int .i64 ((encD (dec.set V 1)).getD 0 0), .int .i64 ((encD (dec.set V 1)).getD 1 0), .int .i64 ((encD (dec.set V 1)).getD 2 0), .int .i64 ((encD (dec.set V 1)).getD 3 0), .int .i64 ((encD (dec.set V 1)).getD 4 0), .int .i64 ((encD (dec.set V 1)).getD 5 0), .int .i64 ((encD (dec.set V 1)).getD 6 0), .int .i64 ((encD (dec.set V 1)).getD 7 0), .int .i64 ((encD (dec.set V 1)).getD 8 0), .int .i64 ((encD (dec.set V 1)).getD 9 0), .int .i64 ((encD (dec.set V 1)).getD 10 0), .int .i64 ((encD (dec.set V 1)).getD 11 0)] 105 := bD6
        generalize (encD (dec.set V 1)).getD 0 0 = e0 at HR2 bD6
        generalize (encD (dec.set V 1)).getD 1 0 = e1 at HR2 bD6
        generalize (encD (dec.set V 1)).getD 2 0 = e2 at HR2 bD6
        generalize (encD (dec.set V 1)).getD 3 0 = e3 at HR2 bD6
        generalize (encD (dec.set V 1)).getD 4 0 = e4 at HR2 bD6
        generalize (encD (dec.set V 1)).getD 5 0 = e5 at HR2 bD6
        generalize (encD (dec.set V 1)).getD 6 0 = e6 at HR2 bD6
        generalize (encD (dec.set V 1)).getD 7 0 = e7 at HR2 bD6
        generalize (encD (dec.set V 1)).getD 8 0 = e8 at HR2 bD6
        generalize (encD (dec.set V 1)).getD 9 0 = e9 at HR2 bD6
        generalize (encD (dec.set V 1)).getD 10 0 = e10 at HR2 bD6
        generalize (encD (dec.set V 1)).getD 11 0 = e11 at HR2 bD6
        have z0 := bD6.cell 0 rfl
        have z1 := bD6.cell 1 rfl
        have z2 := bD6.cell 2 rfl
        have z3 := bD6.cell 3 rfl
        have z4 := bD6.cell 4 rfl
        have z5 := bD6.cell 5 rfl
        have z6 := bD6.cell 6 rfl
        have z7 := bD6.cell 7 rfl
        have z8 := bD6.cell 8 rfl
        have z9 := bD6.cell 9 rfl
        have z10 := bD6.cell 10 rfl
        have z11 := bD6.cell 11 rfl
        go_wp2_with fail
        clear z0 z1 z2 z3 z4 z5 z6 z7 z8 z9 z10 z11
        refine HR2.out.mono ?_
        rintro e W7 ⟨hg7, ⟨h1, rfl, hM7⟩ | ⟨h1, rfl⟩⟩
        · have HG7 := hide (Grown.trans bX6 hg7)
          have H17 := hide h1
          have HM7 : Hid (OwnM W7 bm (n + 8 * 2 ^ (o' + 1)) (ks ++ reachF l (f + 1) a)) := hide (by
            rw [HRE.out, ← List.append_assoc]
            refine hM7.mono ?_
            rw [Nat.pow_succ]; omega)
          clear hg7 h1 hM7 bD6 bS6 bX6 hm6 HR2 t2
          go_wp2_with fail
          first | go_end0 | skip
          exact ⟨HG7.out, .inl ⟨by rw [HWR.out]; exact H17.out, rfl, HM7.out⟩⟩
        · exact ⟨rfl, Grown.trans bX6 hg7, by rw [HWR.out]; exact .inr ⟨h1, rfl⟩⟩
      · exact ⟨rfl, Grown.trans bX1 hg5, by
          have h2 := HRG.out
          rw [HWP.out, if_pos (by omega)]
          exact .inr ⟨h1, rfl⟩⟩
    · intro hno fr hfr
      have h1 := HNOT.out (by rw [HPA.out, hno])
      exact ⟨hfr, Grown.of Xb.drew _, .inr ⟨by rw [h1]; omega, by rw [h1]⟩⟩
  · intro hno fr hfr
    have h1 := HNOT.out (by rw [HPA.out, hno]; rfl)
    exact ⟨hfr, Grown.of Xb.drew _, .inr ⟨by rw [h1]; omega, by rw [h1]⟩⟩
theorem walk_any (rows : List RowD) (l : List StepD) (hrl : rows.length ≤ 1000) (hll : l.length ≤ 1000000) (bc bm : Nat) (rv sv : Value) : ∀ (f o a : Nat) (dec : List Int) (n : Nat) (ks : List Int) (w : World), dec.length ≤ 12 → RowsOk rows dec.length → openN dec ≤ o → a < l.length → l.length ≤ a + f → n + 8 * 2 ^ o ≤ 900000 →
    Blk w bc [.int .i64 dec.length, rv, sv, .map (some bm)] 101 → RowsAt w rv rows → StepsIn w.cell? sv l → OwnM w bm n ks →
    Calls Try.prog 61 #[.pointer (some ⟨bc, 0, none⟩), .int .i64 a, decV (encD dec)] w (WalkQ bm n ks (wrongF rows l f a dec) (8 * 2 ^ o) (reachF l f a) w)
  | 0, _, a, _, _, _, _, _, _, _, ha, hf, _, _, _, _, _ => by omega
  | f + 1, o, a, dec, n, ks, w, hl, hro, ho, ha, hf, hn, hC, hr, hs, hm => by
    have h2 := Nat.one_le_two_pow (n := o)
    by_cases hv : (l.getD a st0).var = -1
    · refine (walk_leaf rows l dec hl hro hrl a ha hll bc bm n ks (by omega) rv sv w hC hr hs hm hv).mono ?_
      rintro e w' ⟨hg, h⟩
      refine ⟨hg, ?_⟩
      simp only [wrongF, reachF, Int.toNat_natCast]
      rw [if_pos hv, if_pos hv]
      rcases h with ⟨h1, rfl, hM⟩ | ⟨h1, rfl⟩
      · exact .inl ⟨by rw [h1]; rfl, rfl, hM.mono (by omega)⟩
      · refine .inr ⟨by rw [h1]; simp, by rw [h1]; rfl⟩
    · refine walk_node rows l dec hl a ha hll f o bc bm n ks rv sv w hC hs hm hv ho ?_
      intro o' a' dec' n' ks' W ho' h1 h3 h4 h5 h6 hg hM
      subst ho'
      have e : 2 ^ (o' + 1) = 2 * 2 ^ o' := by rw [Nat.pow_succ]; omega
      have hk := Grown.keeps hm hg
      have hC' := Grown.blk hm hg hC
      rw [← h4] at hC' hro hl
      exact walk_any rows l hrl hll bc bm rv sv f o' a' dec' n' ks' W hl hro h5 h3 (by omega) (by omega) hC' (RowsIn.keeps hk hr) (hs.keeps hk) hM
end Go.Proofs.Ytppfdjjhloaopaa
