/- The walk of the reference's Made. Conditions: how the arguments lie in memory; that integers are of 64 bits. -/
import Derived.Test.YtppfdjjhloaopaaPmodD
import Derived.Test.YtppfdjjhloaopaaBlkI
import Derived.Test.YtppfdjjhloaopaaPw15
import Derived.Deep.DeepCutAuto
import Derived.Deep.RegionHeld3
namespace Go.Proofs.Ytppfdjjhloaopaa
open Go.RowKit

/-- a slice of triples -/
def TrisIn (c : Rd) (v : Value) (l : List Tri) : Prop :=
  ∃ a n, v = .slice a l.length n ∧ l.length ≤ n ∧ n ≤ 9223372036854775807 ∧ ∀ k, k < l.length → ∃ b o, a = some ⟨b, o, none⟩ ∧ c ⟨b, o + k * 3, none⟩ = some (.int .i64 (l.getD k tri0).1) ∧ c ⟨b, o + k * 3 + 1, none⟩ = some (.int .i64 (l.getD k tri0).2.1) ∧ c ⟨b, o + k * 3 + 2, none⟩ = some (.int .i64 (l.getD k tri0).2.2)
theorem step_app_int (w : World) {W : World} {ops : Array Oper} {o : Oper} {a : Act} {K : Act → World → Prop} {Q : Exit → Act → World → Prop} {E : Prop} (hgd : o.guard = none) (s x : Operand)
    (ho : o.op = .call { callee := .builtin .append, args := #[s, x], argTypes := #[25, 25] }) (B : Nat) (v : Value) (l : List Int) (hs : a.eval s = v) (hown : OwnI w B v l) (y : Int)
    (hW : Below (w.alloc (.cells #[.int .i64 y] 3)).heap.size (w.alloc (.cells #[.int .i64 y] 3)) W)
    (hx : a.eval x = .slice (some ⟨w.heap.size, 0, none⟩) 1 1) (hlen : l.length < 1000000) (hB : B ≤ w.heap.size)
    (h : ∀ v' w', OwnI w' B v' (l ++ [y]) → Below B w w' → w.heap.size ≤ w'.heap.size → K (a.put o.dst v') w') :
    if Region.wanted o (yielded ops a.tmps) = true then Oper.wp Try.prog o a W K Q else E := by
  have hw : Region.wanted o (yielded ops a.tmps) = true := by simp [Region.wanted, hgd]
  rw [if_pos hw]
  obtain ⟨i0, hi, hz0, hz1, hz2⟩ := info_parts infoInt
  have hsz := hW.size
  simp at hsz
  have hbW := below2 (bal w (.cells #[.int .i64 y] 3)) hW
  refine wp_append_own _ s x 25 ho B 3 i0 (.int .i64 0) 1 8 Try.underlying25 hi hz0 hz1 hz2 rfl (by decide) v l.length (l.map (Value.int .i64)) hs (hown.later hbW)
    ⟨w.heap.size, 0, none⟩ 1 1 [.int .i64 y] hx rfl ?_ ?_ (by unfold maxLen; omega) (by omega) (by omega) ?_
  · intro j u hj
    match j, hj with
    | 0, hj => simp at hj; subst hj; exact keep hW (by simp [Addr.add])
  · intro u hu; simp at hu; subst hu; rfl
  · intro v' w' hown' hg _
    refine h v' w' ?_ ?_ ?_
    · simpa [OwnI] using hown'
    · exact (hbW.mono hB).grown hg (by omega) (fun k hk => (World.ownsRow.lt (show w.ownsRow B 3 1 v l.length (l.map (Value.int .i64)) from hown) k hk).1)
    · have := hg.size; omega
theorem tdiv_i64 {a d : Int} (h : i64B a) (hd : 1 ≤ d) : -9223372036854775808 ≤ a.tdiv d ∧ a.tdiv d ≤ 9223372036854775807 := by
  obtain ⟨h1, h2⟩ := h
  have l : (a.tdiv d).natAbs ≤ a.natAbs := by rw [Int.natAbs_tdiv]; exact Nat.div_le_self _ _
  rcases Int.lt_or_le a 0 with h0 | h0
  · have hs : a.tdiv d ≤ 0 := by
      have := Int.tdiv_nonneg (a := -a) (b := d) (by omega) (by omega)
      rw [Int.neg_tdiv] at this; omega
    omega
  · have hs : 0 ≤ a.tdiv d := Int.tdiv_nonneg h0 (by omega)
    omega
/-- the call returns a program of its own: its rows from block BA on, all numbers in blocks of integers behind those of before -/
def MadeQ (p : ProgD) (w : World) (e : Ending) (w' : World) : Prop :=
  ∃ rv gv BA, e = .returned (progV p rv gv) ∧ w.heap.size < BA ∧ RowsOwn w' w.heap.size BA rv p.rows ∧ IntsIn (frmY w.heap.size 3 w') gv p.gain ∧ Below w.heap.size w w'
set_option maxRecDepth 100000 in
set_option maxHeartbeats 2000000 in
theorem made_own (v : Int) (x : List Tri) (xv : Value) (g : List Int) (w : World) (hv : i64B v) (hx : TrisIn w.cell? xv x) (hx64 : ∀ t ∈ x, tri64 t) (hg : g.length = 8) (hg64 : ∀ y ∈ g, i64B y) :
    Calls Try.prog 10 #[.int .i64 v, xv, .agg (g.map (Value.int .i64)).toArray] w (MadeQ (madeF v x g) w) := by
  obtain ⟨xa, xn, rfl, hx1, hx2, hxc⟩ := hx
  obtain ⟨g0, g1, g2, g3, g4, g5, g6, g7, rfl⟩ : ∃ g0 g1 g2 g3 g4 g5 g6 g7, g = [g0, g1, g2, g3, g4, g5, g6, g7] := by
    match g, hg with
    | [a, b, c, d, e, f, g, h], _ => exact ⟨_, _, _, _, _, _, _, _, rfl⟩
  have hmx : (x.length : Int) ≤ 9223372036854775807 := by omega
  go_enter Try.func10, Try.ntmps10
  go_wp2_with fail
  refine (pickr_any v 9 _ hv.1 hv.2 (by decide) (by decide)).mono ?_
  rintro e w2 ⟨rfl, hw2⟩
  rw [mvars_eq]
  have hn8 := mvars_le v
  have HF : Hid (madeF v x [g0, g1, g2, g3, g4, g5, g6, g7] = ⟨mvars v, mrows x (mvars v) (min x.length 8), mgain [g0, g1, g2, g3, g4, g5, g6, g7] (mvars v)⟩) := hide rfl
  have bG : Blk w2 w.heap.size ([g0, g1, g2, g3, g4, g5, g6, g7].map (Value.int .i64)) 23 := by rw [hw2]; exact (Blk.new w _ _).old _
  have bR : Blk w2 (w.heap.size + 1) [.int .i64 0, .slice none 0 0, .slice none 0 0] 27 := by
    have := Blk.new (w.alloc (.cells ([g0, g1, g2, g3, g4, g5, g6, g7].map (Value.int .i64)).toArray 23)) [.int .i64 0, .slice none 0 0, .slice none 0 0] 27
    rw [hw2]; simpa using this
  have hb2 : Below w.heap.size w w2 := by rw [hw2]; exact (bal w _).alloc (by simp) _
  have hG64 := hide hg64
  have hGl : [g0, g1, g2, g3, g4, g5, g6, g7].length = 8 := rfl
  have HGL := hide hGl
  clear hw2 hg64 hGl hg
  generalize hnn : mvars v = n at hn8 HF ⊢
  clear hnn
  have hm1 : (n : Int) ≤ 9223372036854775807 := by omega
  go_wp2_with fail
  generalize hW : World.alloc w2 _ = W3
  have bP : Blk W3 w2.heap.size [.int .i64 n, .slice none 0 0, .slice none 0 0] 27 := by rw [← hW]; exact Blk.new w2 _ _
  have hz3 : W3.heap.size = w2.heap.size + 1 := by rw [← hW]; simp
  have hb3 : Below w2.heap.size w2 W3 := by rw [← hW]; exact bal w2 _
  have HZ := hide hz3
  clear hW hz3
  generalize hGG : [g0, g1, g2, g3, g4, g5, g6, g7] = G at bG HF hG64 HGL ⊢
  have HGG := hide hGG
  clear hGG
  have bP2 := hb3.size
  go_loopw [8] (fun i wr => ∃ (k : Nat) (gv : Value), k ≤ n ∧ i = .int .i64 k ∧ OwnI wr (w2.heap.size + 1) gv (mgain G k) ∧ Blk wr w2.heap.size [.int .i64 n, .slice none 0 0, gv] 27 ∧ Below w2.heap.size w2 wr ∧ w2.heap.size + 1 ≤ wr.heap.size) (fun i _ => n - (intOf i).toNat)
  case atStart => exact ⟨0, _, by omega, rfl, OwnI.nil _ _, bP, hb3, by have := HZ.out; omega⟩
  case round =>
    obtain ⟨k, gv, hk, rfl, hown, hP, hbr, hzr⟩ := hrel
    have p0 := hP.cell 0 rfl
    by_cases hlt : k < n
    · have h64 := hG64.out (G.getD k 0) (getD_mem G k (d := 0) (by have := HGL.out; omega))
      have hgc := (bG.later hbr).cell k (v := .int .i64 (G.getD k 0)) (by
        have hkl : k < G.length := by have := HGL.out; omega
        rw [List.getElem?_map, List.getElem?_eq_getElem hkl, List.getD_eq_getElem?_getD, List.getElem?_eq_getElem hkl]; rfl)
      have HS := hide (mgain_succ G k)
      have hml : (mgain G k).length < 1000000 := by rw [mgain_len]; omega
      generalize G.getD k 0 = y at h64 hgc HS
      have hp1 := pickF_nonneg y (n := 40) (by decide)
      have hp2 := pickF_lt y (n := 40) (by decide)
      have p2 := hP.cell 2 rfl
      have pf := hP.frozen 2
      have hk8 : (k : Int) < 8 := by omega
      have hk8' : k < 8 := by omega
      have hl2 : w2.heap.size < wr.heap.size := hP.lt
      have hl0 : w.heap.size < wr.heap.size := (bG.later hbr).lt
      have HWR : Hid (IntKind.i64.wrap (pickF y 40 - 8) = pickF y 40 - 8) := hide (by rw [IntKind.wrap_i64]; omega)
      clear hxc
      go_wp2_with fail
      go_region_law (first | (go_simp; go_at_call 32; refine (pickr_any y 40 _ h64.1 h64.2 (by decide) (by decide)).mono ?_; rintro e w5 ⟨rfl, rfl⟩) | (refine step_app_int wr rfl _ _ rfl (w2.heap.size + 1) _ _ rfl hown (IntKind.i64.wrap (pickF y 40 - 8)) ((Below.refl _ _).drew) rfl hml hzr ?_; intro v' w6 hown6 hb6 hz6; obtain ⟨gb, gc, rfl⟩ := hown6.succ; have hP6 := hP.below hb6 (by omega); have p2 := hP6.cell 2 rfl; have pf := hP6.frozen 2))
      all_goals (
        go_wp2
        go_roundw
        case rel => exact ⟨k + 1, _, by omega, by go_num, by rw [HS.out, ← HWR.out]; exact hown6.set (by omega) _ _, hP6.set 2 _, (hbr.trans (hb6.mono (by omega))).setCell (Nat.le_refl _) _, by simp [World.setCell]; omega⟩
        case measure => simp [intOf]; omega)
    · obtain rfl : k = n := by omega
      obtain ⟨ga, gc, rfl⟩ := hown.form
      have hgy := hown.intsY (B' := w.heap.size) (by have := hb2.size; omega)
      rw [mgain_len] at hP hgy
      clear hown
      have hlP := hP.lt
      obtain ⟨BA, HBA⟩ : ∃ BA, Hid (BA = wr.heap.size) := ⟨_, rfl⟩
      have hPA : w2.heap.size < BA := by rw [HBA.out]; exact hlP
      have hAr : BA ≤ wr.heap.size := by rw [HBA.out]; exact Nat.le_refl _
      go_wp2_with fail
      go_loopw [9] (fun i wt => ∃ (j : Nat) (rv : Value), j ≤ min x.length 8 ∧ i = .int .i64 j ∧ RowsOwn wt w.heap.size BA rv (mrows x k j) ∧ Blk wt w2.heap.size [.int .i64 k, rv, .slice ga k gc] 27 ∧ IntsIn (frmY w.heap.size 3 wt) (.slice ga k gc) (mgain G k) ∧ Below w2.heap.size w2 wt ∧ BA ≤ wt.heap.size) (fun i _ => min x.length 8 - (intOf i).toNat)
      case atStart => exact ⟨0, _, by omega, rfl, RowsOwn.nil _ _ _, hP, hgy, hbr, hAr⟩
      case round =>
        obtain ⟨j, rv, hj, rfl, hRO, hPt, hgt, hbt, hzt⟩ := hrel
        by_cases hlt2 : j < min x.length 8
        · have hjx : j < x.length := by omega
          have hj8 : j < 8 := by omega
          obtain ⟨b, o, rfl, hx0, hx1', hx2'⟩ := hxc j hjx
          have ht64 := hx64 _ (getD_mem x j (d := tri0) hjx)
          have HRS := hide (mrows_succ x k j)
          have hbwt := below2 hb2 hbt
          generalize x.getD j tri0 = t at hx0 hx1' hx2' ht64 HRS
          obtain ⟨ta, tb, tc⟩ := t
          simp only [tri64] at ht64 hx0 hx1' hx2'
          obtain ⟨h64a, h64b, h64c⟩ := ht64
          have c0 := keep hbwt hx0
          have c1 := keep hbwt hx1'
          have c2 := keep hbwt hx2'
          have hlb : b < wr.heap.size := lt_of_cell c0
          have HXC := hide hxc
          clear hxc hx0 hx1' hx2'
          go_wp2_with fail
          have HW1 : Hid (IntKind.i64.wrap (1 + (j : Int)) = 1 + j) := hide (by rw [IntKind.wrap_i64]; omega)
          have hpt1 := pickF_nonneg tc (n := 30) (by decide)
          have hpt2 := pickF_lt tc (n := 30) (by decide)
          have HW2 : Hid (IntKind.i64.wrap (pickF tc 30 - 4) = pickF tc 30 - 4) := hide (by rw [IntKind.wrap_i64]; omega)
          have hq := hide (And.intro c0 c2)
          go_cut [9, 10] (fun i s wx => i = .int .i64 j ∧ s = .pointer (some ⟨wr.heap.size, 0, none⟩) ∧ Blk wx wr.heap.size [.int .i64 (1 + (j : Int)), .int .i64 (pickF ta 9), .int .i64 0, .int .i64 0, .slice none 0 0, .int .i64 (pickF tc 30 - 4)] 67 ∧ Below wr.heap.size wr wx)
          case first =>
            go_region_held3 (fun w' => w'.cell? ⟨b, o + j * 3, none⟩ = some (.int .i64 ta) ∧ w'.cell? ⟨b, o + j * 3 + 2, none⟩ = some (.int .i64 tc))
              (first | go_keep | exact ⟨hq.out.1, hq.out.2⟩ | exact ⟨keep (bal wr _) hq.out.1, keep (bal wr _) hq.out.2⟩)
              (first | (go_at_call 32; refine (pickr_any _ _ _ (by first | exact h64a.1 | exact h64c.1) (by first | exact h64a.2 | exact h64c.2) (by decide) (by decide)).mono ?_; rintro e w5 ⟨rfl, rfl⟩))
            all_goals (
              rw [HW1.out, HW2.out]
              have bRw : Blk (World.alloc wr (.cells [.int .i64 (1 + (j : Int)), .int .i64 (pickF ta 9), .int .i64 0, .int .i64 0, .slice none 0 0, .int .i64 (pickF tc 30 - 4)].toArray 67)).drew wr.heap.size [.int .i64 (1 + (j : Int)), .int .i64 (pickF ta 9), .int .i64 0, .int .i64 0, .slice none 0 0, .int .i64 (pickF tc 30 - 4)] 67 := (Blk.new wr _ _).later (Below.refl _ _).drew
              have hbR : Below wr.heap.size wr (World.alloc wr (.cells [.int .i64 (1 + (j : Int)), .int .i64 (pickF ta 9), .int .i64 0, .int .i64 0, .slice none 0 0, .int .i64 (pickF tc 30 - 4)].toArray 67)).drew := below2 (bal wr _) (Below.refl _ _).drew
              go_wp2_with fail
              go_meet
              exact ⟨rfl, rfl, bRw, hbR⟩)
          case rest =>
            obtain ⟨rfl, rfl, bRw, hbR⟩ := hcut
            obtain ⟨wo, rfl⟩ : ∃ wo : World, wo = wr := ⟨_, rfl⟩
            clear HW1 HW2 hq
            go_wp2_with fail
            go_loopw [11] (fun i wt => ∃ (q : Nat) (cv : Value), q ≤ k ∧ i = .int .i64 q ∧ OwnI wt (wo.heap.size + 1) cv (mcoef (ta, tb, tc) q) ∧ Blk wt wo.heap.size [.int .i64 (1 + (j : Int)), .int .i64 (pickF ta 9), .int .i64 0, .int .i64 0, cv, .int .i64 (pickF tc 30 - 4)] 67 ∧ Below wo.heap.size wo wt ∧ wo.heap.size + 1 ≤ wt.heap.size) (fun i _ => k - (intOf i).toNat)
            case atStart => exact ⟨0, _, by omega, rfl, OwnI.nil _ _, bRw, hbR, bRw.lt⟩
            case round =>
              obtain ⟨q, cv, hqk, rfl, hoc, hRw, hbq, hzq⟩ := hrel
              have hPq := hPt.later hbq
              have p0 := hPq.cell 0 rfl
              by_cases hlt3 : q < k
              · have hbq' := hbt.trans (hbq.mono (by omega))
                have hbw3 := below2 hb2 hbq'
                have d0 := keep hbq c0
                have d1 := keep hbq c1
                have r4 := hRw.cell 4 rfl
                have rf := hRw.frozen 4
                have hsR := hRw.lt
                have HCS := hide (mcoef_succ (ta, tb, tc) q)
                have hcl : (mcoef (ta, tb, tc) q).length < 1000000 := by rw [mcoef_len]; omega
                have HD1 : -9223372036854775808 ≤ ta.tdiv (1 + 3 * (q : Int)) ∧ ta.tdiv (1 + 3 * (q : Int)) ≤ 9223372036854775807 := tdiv_i64 h64a (by omega)
                have HD2 : -9223372036854775808 ≤ tb.tdiv (1 + 5 * (q : Int)) ∧ tb.tdiv (1 + 5 * (q : Int)) ≤ 9223372036854775807 := tdiv_i64 h64b (by omega)
                have m1 : IntKind.i64.wrap (3 * (q : Int)) = 3 * q := by rw [IntKind.wrap_i64]; omega
                have m2 : IntKind.i64.wrap (1 + 3 * (q : Int)) = 1 + 3 * q := by rw [IntKind.wrap_i64]; omega
                have m3 : IntKind.i64.wrap (ta.tdiv (1 + 3 * (q : Int))) = ta.tdiv (1 + 3 * (q : Int)) := by rw [IntKind.wrap_i64]; omega
                have m4 : IntKind.i64.wrap (5 * (q : Int)) = 5 * q := by rw [IntKind.wrap_i64]; omega
                have m5 : IntKind.i64.wrap (1 + 5 * (q : Int)) = 1 + 5 * q := by rw [IntKind.wrap_i64]; omega
                have m6 : IntKind.i64.wrap (tb.tdiv (1 + 5 * (q : Int))) = tb.tdiv (1 + 5 * (q : Int)) := by rw [IntKind.wrap_i64]; omega
                have n1 : 1 + 3 * (q : Int) ≠ 0 := by omega
                have n2 : 1 + 5 * (q : Int) ≠ 0 := by omega
                have HW5 : Hid (IntKind.i64.wrap (pickF (ta.tdiv (1 + 3 * (q : Int))) 12 - pickF (tb.tdiv (1 + 5 * (q : Int))) 5) = mco (ta, tb, tc) q) := hide (by
                  have a1 := pickF_nonneg (ta.tdiv (1 + 3 * (q : Int))) (n := 12) (by decide)
                  have a2 := pickF_lt (ta.tdiv (1 + 3 * (q : Int))) (n := 12) (by decide)
                  have a3 := pickF_nonneg (tb.tdiv (1 + 5 * (q : Int))) (n := 5) (by decide)
                  have a4 := pickF_lt (tb.tdiv (1 + 5 * (q : Int))) (n := 5) (by decide)
                  show IntKind.i64.wrap _ = pickF (ta.tdiv (1 + 3 * (q : Int))) 12 - pickF (tb.tdiv (1 + 5 * (q : Int))) 5
                  rw [IntKind.wrap_i64]; omega)
                go_wp2_with fail
                have hgl2 := hb2.size
                clear hbwt hbw3 c0 c1 c2 bRw hbR hRO hPt hgt hPq p0 HXC HRS hgy hP bP HF HGG hG64 bG HZ hb3 bR hpt1 hpt2 h64a h64b h64c hbt hbr hb2 hzr hlP hAr HBA
                go_region_law (first | (go_simp; go_at_call 32; refine (pickr_any _ _ _ (by first | exact HD1.1 | exact HD2.1) (by first | exact HD1.2 | exact HD2.2) (by decide) (by decide)).mono ?_; rintro e w5 ⟨rfl, rfl⟩) | (refine step_app_int wr rfl _ _ rfl _ _ _ rfl hoc (IntKind.i64.wrap (pickF (ta.tdiv (1 + 3 * (q : Int))) 12 - pickF (tb.tdiv (1 + 5 * (q : Int))) 5)) ((Below.refl _ _).drew) rfl hcl hzq ?_; intro v' w6 hown6 hb6 hz6; obtain ⟨gb, gc', rfl⟩ := hown6.succ; have hR6 := hRw.below hb6 (by omega); have r4 := hR6.cell 4 rfl; have rf := hR6.frozen 4))
                all_goals (
                    go_wp2_with fail
                    go_roundw
                    case rel => exact ⟨q + 1, _, by omega, by go_num, by rw [HCS.out, ← HW5.out]; exact hown6.set (by omega) _ _, hR6.set 4 _, (hbq.trans (hb6.mono (by omega))).setCell (Nat.le_refl _) _, by simp [World.setCell]; omega⟩
                    case measure => simp [intOf]; omega)
              · obtain rfl : q = k := by omega
                obtain ⟨cva, cvc, rfl⟩ := hoc.form
                rw [mcoef_len] at hRw
                have hROq := hRO.later hbq
                have hgq := hgt.keeps (keeps_frmY_below hbq)
                obtain ⟨L, hOR, hLl, hLs⟩ := hROq
                have HLl := hide hLl
                have HLs := hide hLs
                rw [mrows_len] at hLl
                clear hLs
                have hoy := hoc.intsY (B' := w.heap.size) (by have := hb2.size; omega)
                rw [mcoef_len] at hoy
                have o1 := hPq.cell 1 rfl
                have r0 := hRw.cell 0 rfl
                have r1 := hRw.cell 1 rfl
                have r2 := hRw.cell 2 rfl
                have r3 := hRw.cell 3 rfl
                have r4 := hRw.cell 4 rfl
                have r5 := hRw.cell 5 rfl
                go_wp2_with (at_builtin; refine app_rec infoRow rfl (by decide) rfl rfl _ _ rfl BA _ L rfl hOR [.int .i64 (1 + (j : Int)), .int .i64 (pickF ta 9), .int .i64 0, .int .i64 0, .slice cva q cvc, .int .i64 (pickF tc 30 - 4)] rfl cells6 _ rfl (by simp) (by omega) (by omega) (by omega) ?_; intro g7 c7 w7 hO7 hE7 hz7; have bO7 := hE7.blk hPq (by decide); have o71 := bO7.cell 1 rfl; have of7 := bO7.frozen 1)
                go_roundw
                case rel =>
                  rw [List.length_append, hLl] at hO7
                  have hRO7 := (RowsOwn.app (x := mrow (ta, tb, tc) q j) HLl.out HLs.out hoy hO7 hE7).set bO7 hPA (by decide) 1 (.slice (some ⟨g7, 0, none⟩) (j + 1) c7)
                  exact ⟨j + 1, _, by omega, by go_num, by rw [HRS.out]; exact hRO7, bO7.set 1 _, (hgq.keeps (keeps_frmY_eff hE7 (by decide))).keeps (keeps_frmY_set bO7 (by decide) 1 _), ((hbt.trans (hbq.mono (by omega))).trans ((hE7.below (by omega)).mono (by omega))).setCell (Nat.le_refl _) _, by simp [World.setCell]; omega⟩
                case measure => simp [intOf]; omega
        · have hmm : min x.length 8 = j := by omega
          rw [hmm] at HF
          obtain ⟨va, vc, rfl⟩ := hRO.form
          have bRr := bR.later hbt
          have o0 := hPt.cell 0 rfl
          have o1 := hPt.cell 1 rfl
          have o2 := hPt.cell 2 rfl
          have t0 := bRr.cell 0 rfl
          have t1 := bRr.cell 1 rfl
          have t2 := bRr.cell 2 rfl
          have f0 := bRr.frozen 0
          have f1 := bRr.frozen 1
          have f2 := bRr.frozen 2
          have hwR : w.heap.size + 1 < BA := by have := bR.lt; omega
          have hy2 := (set3 bRr (.int .i64 k) (.slice va (mrows x k j).length vc) (.slice ga k gc)).1
          have hy3 := (set3 bRr (.int .i64 k) (.slice va (mrows x k j).length vc) (.slice ga k gc)).2.1 _ _ (below2 hb2 hbt) (by omega)
          have hRf := ((hRO.set bRr hwR (by decide) 0 (.int .i64 k)).set (bRr.set 0 _) hwR (by decide) 1 (.slice va (mrows x k j).length vc)).set ((bRr.set 0 _).set 1 _) hwR (by decide) 2 (.slice ga k gc)
          have hgf := ((hgt.keeps (keeps_frmY_set bRr (by decide) 0 (.int .i64 k))).keeps (keeps_frmY_set (bRr.set 0 _) (by decide) 1 (.slice va (mrows x k j).length vc))).keeps (keeps_frmY_set ((bRr.set 0 _).set 1 _) (by decide) 2 (.slice ga k gc))
          clear hxc hmm
          have hlts : ¬ (j : Int) < x.length ∨ ((j : Int) < x.length ∧ ¬ (j : Int) < 8) := by omega
          rcases hlts with hlt3 | ⟨hlt3, hlt4⟩
          all_goals (
            go_wp2_with fail
            generalize World.setCell (World.setCell _ _ _) ⟨w.heap.size + 1, 2, none⟩ _ = Wf at hy2 hy3 hRf hgf ⊢
            have x0 := hy2.cell 0 rfl
            have x1 := hy2.cell 1 rfl
            have x2 := hy2.cell 2 rfl
            refine bodyPost_ret (v := .agg #[.int .i64 k, .slice va (mrows x k j).length vc, .slice ga k gc]) (by simp [results, Try.results10, go_sem, x0, x1, x2]) rfl ?_
            exact ⟨_, _, BA, by rw [HGG.out, HF.out], by omega, by rw [HGG.out, HF.out]; exact hRf, by rw [HGG.out, HF.out]; exact hgf, hy3⟩)
theorem made_any (v : Int) (x : List Tri) (xv : Value) (g : List Int) (w : World) (hv : i64B v) (hx : TrisIn w.cell? xv x) (hx64 : ∀ t ∈ x, tri64 t) (hg : g.length = 8) (hg64 : ∀ y ∈ g, i64B y) :
    Calls Try.prog 10 #[.int .i64 v, xv, .agg (g.map (Value.int .i64)).toArray] w (RetM (fun c v' => ProgIn c v' (madeF v x g)) w) :=
  (made_own v x xv g w hv hx hx64 hg hg64).mono fun _ w' ⟨rv, gv, BA, e, h1, h2, h3, h4⟩ => ⟨_, e, ⟨_, _, rfl, h2.at (Nat.le_refl _) (by omega), h3.keeps (keeps_frmY _ _ _)⟩, h4⟩
end Go.Proofs.Ytppfdjjhloaopaa
