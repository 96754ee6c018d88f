/- Walk of Bounds of package proof. Conditions: how the program and the proof lie in memory; how many rows and numbers there are. -/
import Derived.Test.YtppfdjjhloaopaaPfE
import Derived.Test.YtppfdjjhloaopaaProw
import Derived.Test.YtppfdjjhloaopaaRegM
import Derived.Deep.RegionLawGrows
namespace Go.Proofs.Ytppfdjjhloaopaa
open Go.RowKit

/-- the goal's row as package proof makes it, whatever the numbers are -/
def negW (l : List Int) (k : Nat) : List Int := (l.take k).map fun x => wrap64 (-x)
theorem negW_succ {l : List Int} {k : Nat} (h : k < l.length) : negW l (k + 1) = negW l k ++ [wrap64 (-(l.getD k 0))] := by
  unfold negW; rw [take_succ' l k 0 h, List.map_append]; rfl
theorem negW_len {l : List Int} {k : Nat} (h : k ≤ l.length) : (negW l k).length = k := by
  unfold negW; rw [List.length_map, List.length_take]; omega
def goalW (gl : List Int) (g : Int) : RowD := ⟨0, 0, 0, 0, negW gl gl.length, -(g + 1)⟩
theorem goalW_in {gl : List Int} (h : coefsB gl = true) (g : Int) : goalW gl g = goalF gl g := by
  have e : negW gl gl.length = gl.map fun x => -x := by
    unfold negW
    rw [List.take_length]
    refine List.map_congr_left fun x hx => ?_
    have := List.all_eq_true.1 h x hx
    simp only [bndB, decide_eq_true_eq] at this
    exact wrap_id (by omega) (by omega)
  unfold goalW goalF; rw [e]
def withW (p : ProgD) (g : Int) : List RowD := p.rows ++ [goalW p.gain g]
theorem withW_len (p : ProgD) (g : Int) : (withW p g).length = p.rows.length + 1 := by simp [withW]
def boundsB (p : ProgD) (l : List StepD) (g : Int) : Bool := isInB (-12000000000) g 12000000000 && decide (checkF p (p.rows ++ [goalF p.gain g]) l = -1)
theorem withW_check (p : ProgD) (l : List StepD) (g : Int) : checkF p (withW p g) l = checkF p (p.rows ++ [goalF p.gain g]) l := by
  unfold checkF
  cases h : validB p
  · simp
  · have hc := (valid_parts h).2.2.2.2.2
    rw [show withW p g = p.rows ++ [goalF p.gain g] by unfold withW; rw [goalW_in hc]]
theorem withW_ok {p : ProgD} (hV : validB p = true) (g : Int) (h1 : -100000000000 ≤ g) (h2 : g ≤ 100000000000) : RowsOk (withW p g) p.vars.toNat := by
  have hc := (valid_parts hV).2.2.2.2.2
  unfold withW; rw [goalW_in hc]; exact with_ok hV g h1 h2
/-- behind an append of one row onto rows that lie anywhere -/
theorem grown_rows {W W' : World} {rows : List RowD} {r : RowD} {Lr : List (List Value)} {v' cv : Value} (hl : Lr.length = rows.length) (h6 : ∀ x ∈ Lr, x.length = 6) (hs : ∀ i, i < rows.length → ∃ cv, Lr.getD i [] = rowCells (rows.getD i row0) cv ∧ IntsIn W.cell? cv (rows.getD i row0).coef)
    (hcv : IntsIn W.cell? cv r.coef) (hg : W.grownBy W' none) {B : Nat} (hO : W'.ownsRow B 67 6 v' (rows.length + 1) (Lr.flatten ++ rowCells r cv)) : RowsAt W' v' (rows ++ [r]) := by
  have hk : Keeps W.cell? W'.cell? := keeps_of_below (below_of_grown hg)
  have hO8 : OwnR W' B 67 6 v' (Lr ++ [rowCells r cv]) := by
    refine ⟨?_, fun x hx => ?_⟩
    · rw [List.length_append, List.flatten_append, hl]
      simpa using hO
    · rcases List.mem_append.1 hx with h1 | h1
      · exact h6 x h1
      · simp at h1; rw [h1]; rfl
  refine hO8.rows (by simp [hl]) fun i hi => ?_
  rcases Nat.lt_or_ge i rows.length with h1 | h1
  · obtain ⟨cv, e, hc⟩ := hs i h1
    refine ⟨cv, ?_, ?_⟩
    · rw [getD_app_left _ _ _ _ (by omega), getD_app_left _ _ _ _ h1]; exact e
    · rw [getD_app_left _ _ _ _ h1]; exact hc.keeps hk
  · have hi' : i = rows.length := by simp at hi; omega
    subst hi'
    refine ⟨cv, ?_, ?_⟩
    · rw [getD_app_right _ _ _ _ (by omega), getD_app_right _ _ _ _ (Nat.le_refl _), hl]; simp
    · rw [getD_app_right _ _ _ _ (Nat.le_refl _)]
      simp only [Nat.sub_self, List.getD_cons_zero]
      exact hcv.keeps hk
theorem step_grows3 {W : World} {ops : Array Oper} {o : Oper} {T : Array Value} {D : List Deferred} {K : Act → World → Prop} {Q : Exit → Act → World → Prop} {E : Prop}
    (hg : o.guard = none) (s x : Operand) (t : TypeId) (hop : o.op = Op.call { callee := Callee.builtin Builtin.append, args := #[s, x], argTypes := #[t, t] })
    (e : TypeId) (i : TypeInfo) (z : Value) (size bytes : Nat) (h1 : Try.prog.underlying t = some (.slice e)) (h2 : Try.prog.info? e = some i) (h3 : i.zero = some z) (h4 : i.size = size) (h5 : i.bytes = bytes) (h6 : z.cells.size = size) (h7 : 0 < size)
    (ao : Option Addr) (n cap : Nat) (olds : List Value) (hs : Act.eval ⟨T, D⟩ s = .slice ao n cap) (hnone : ao = none → n = 0 ∧ cap = 0) (hlo : olds.length = n * size) (holds : ∀ b, ao = some b → ∀ j u, olds[j]? = some u → W.cell? (b.add j) = some u)
    (ad : Addr) (m c : Nat) (news : List Value) (hx : Act.eval ⟨T, D⟩ x = .slice (some ad) m c) (hn : news.length = m * size) (hc : ∀ j u, news[j]? = some u → W.cell? (ad.add j) = some u) (h1c : ∀ u ∈ news, u.oneCell' = true)
    (hfull : cap < n + m) (b1 : n + m ≤ maxLen) (b2 : (n + m) * bytes ≤ 140737488355328)
    (hK : ∀ v' w', w'.ownsRow W.heap.size e size v' (n + m) (olds ++ news) → W.grownBy w' none → K (Act.put ⟨T, D⟩ o.dst v') w') :
    if Region.wanted o (yielded ops T) = true then Oper.wp Try.prog o ⟨T, D⟩ W K Q else E :=
  step_append_grows (a := ⟨T, D⟩) hg s x t hop e i z size bytes h1 h2 h3 h4 h5 h6 h7 ao n cap olds hs hnone hlo holds ad m c news hx hn hc h1c hfull b1 b2 hK
set_option maxRecDepth 100000 in
set_option maxHeartbeats 2000000 in
theorem bounds_any (p : ProgD) (rv gv : Value) (l : List StepD) (sv : Value) (g : Int) (w : World) (hr : RowsAt w rv p.rows) (hg : IntsAt w gv p.gain) (hs : StepsIn w.cell? sv l) (hrl : p.rows.length ≤ 1000) (hgl : p.gain.length ≤ 1000) :
    Calls Try.prog 25 #[progV p rv gv, sv, .int .i64 g] w (Ret (.bool (boundsB p l g)) w) := by
  have HF : Hid (boundsB p l g = (isInB (-12000000000) g 12000000000 && decide (checkF p (withW p g) l = -1))) := hide (by unfold boundsB; rw [withW_check])
  generalize hi : isInB (-12000000000) g 12000000000 = b1 at HF
  have HI := hide hi
  have H1 := hide (fun (W : World) => isInP_eq g (-12000000000) 12000000000 W)
  rw [hi] at H1
  clear hi
  obtain ⟨ra, rc, rfl, hrc, hrm, -⟩ := id hr
  obtain ⟨ga, gc, rfl, -, hgm, hgk⟩ := id hg
  cases b1
  · go_enter Try.func25, Try.ntmps25
    go_wp2_with fail
    have hb := bal w (.cells #[.int .i64 p.vars, .slice ra p.rows.length rc, .slice ga p.gain.length gc] 27)
    refine (H1.out _).mono ?_
    rintro e w1 ⟨rfl, hw⟩
    rw [hw]
    clear hw w1
    go_wp2_with fail
    go_ret
    exact ⟨ret_bool (by rw [HF.out]; rfl), hb⟩
  · have hgb : -12000000000 ≤ g ∧ g ≤ 12000000000 := by have := HI.out; simpa [isInB] using this
    have e1 : IntKind.i64.wrap (g + 1) = g + 1 := IntWalk.i64_in _ ⟨by omega, by omega⟩
    have e2 : IntKind.i64.wrap (-(g + 1)) = -(g + 1) := IntWalk.i64_in _ ⟨by omega, by omega⟩
    have HGK := hide hgk
    have HGB := hide hgb
    clear hgk hgb
    go_enter Try.func25, Try.ntmps25
    go_wp2_with fail
    generalize hW1 : World.alloc w _ = W1
    have b1 : Below w.heap.size w W1 := by rw [← hW1]; exact bal w _
    have z1 : W1.heap.size = w.heap.size + 1 := by rw [← hW1]; simp
    have bP : Blk W1 w.heap.size [.int .i64 p.vars, .slice ra p.rows.length rc, .slice ga p.gain.length gc] 27 := by rw [← hW1]; exact Blk.new w _ _
    have HZ := hide z1
    clear hW1 z1
    refine (H1.out _).mono ?_
    rintro e w1 ⟨rfl, hw⟩
    rw [hw]
    clear hw w1
    have p0 := bP.cell 0 rfl
    have p1 := bP.cell 1 rfl
    have p2 := bP.cell 2 rfl
    go_upto_region 4 with (fail)
    generalize hX1 : World.alloc W1 _ = X1
    have zX1 : X1.heap.size = W1.heap.size + 1 := by rw [← hX1]; simp
    have bX1 : Below W1.heap.size W1 X1 := by rw [← hX1]; exact bal W1 _
    have bR : Blk X1 (W1.heap.size) [.int .i64 0, .int .i64 0, .int .i64 0, .int .i64 0, .slice none 0 0, .int .i64 (-(g + 1))] 67 := by rw [← hX1]; exact Blk.newA W1 _ (by first | rfl | simp)
    have Xb := bX1
    have Xz := zX1
    clear hX1 zX1 bX1
    have p2 := keep Xb p2
    have bXw := below2 b1 Xb
    have XZ := hide Xz
    have hz1 : w.heap.size < W1.heap.size := by rw [HZ.out]; omega
    clear Xz p0 p1
    go_wp2_with fail
    go_loopw [22] (fun i wr => ∃ (k : Nat) (v : Value), k ≤ p.gain.length ∧ i = .int .i64 k ∧ OwnI wr X1.heap.size v (negW p.gain k) ∧ Blk wr W1.heap.size [.int .i64 0, .int .i64 0, .int .i64 0, .int .i64 0, v, .int .i64 (-(g + 1))] 67 ∧ Below W1.heap.size X1 wr ∧ X1.heap.size ≤ wr.heap.size) (fun i _ => p.gain.length - (intOf i).toNat)
    case atStart => exact ⟨0, _, by omega, rfl, OwnI.nil _ _, bR, Below.refl _ _, Nat.le_refl _⟩
    case round =>
      obtain ⟨k, v, hk, rfl, hown, hX, hbr, hz3⟩ := hrel
      have hbw : Below w.heap.size w wr := bXw.trans (hbr.mono (by omega))
      have hRlt : W1.heap.size < X1.heap.size := by rw [XZ.out]; omega
      by_cases hlt : k < p.gain.length
      · obtain ⟨b, o, rfl, hck⟩ := HGK.out k hlt
        have HN := hide (negW_succ (l := p.gain) hlt)
        have hnl : (negW p.gain k).length = k := negW_len (by omega)
        have hnl2 : (negW p.gain k).length < 1000000 := by omega
        generalize p.gain.getD k 0 = x at hck HN
        have ck := keep hbw hck
        have x4 := hX.cell 4 rfl
        have f4 := hX.frozen 4
        clear hnl hck
        go_wp2_with (at_builtin; refine app_int rfl _ _ rfl X1.heap.size _ _ rfl hown (wrap64 (-x)) rfl hnl2 hz3 ?_; intro v' w4 hown4 hb4 hz4; obtain ⟨g4, c4, rfl⟩ := hown4.succ; have hX4 := hX.below hb4 hRlt; have y4 := hX4.cell 4 rfl; have g4 := hX4.frozen 4)
        go_roundw
        case rel => exact ⟨k + 1, _, by omega, by go_num, by rw [HN.out]; exact hown4.set hRlt _ _, hX4.set 4 _, (hbr.trans (hb4.mono (by omega))).setCell (Nat.le_refl _) _, by simp [World.setCell]; omega⟩
        case measure => simp [intOf]; omega
      · obtain rfl : k = p.gain.length := by omega
        obtain ⟨av, cv, rfl⟩ := hown.form
        have hv := hown.ints
        have bPr : Blk wr w.heap.size [.int .i64 p.vars, .slice ra p.rows.length rc, .slice ga p.gain.length gc] 27 := (bP.later Xb).below hbr hz1
        have hrw := hr.below hbw
        have hgw := hg.below hbw
        have hsw := hs.keeps (keeps_of_below hbw)
        obtain ⟨Lr, hLr1, hLr2, hLr3, hLr4, hLr5⟩ := rows_list (RowsAt.to hrw)
        obtain ⟨i0, hi, hj0, hj1, hj2⟩ := info_parts infoRow
        have HJ := hide (And.intro hi (And.intro hj0 (And.intro hj1 hj2)))
        have L1 := hide hLr1
        have L2 := hide hLr2
        have L3 := hide hLr3
        have L4 := hide hLr4
        have L5 := hide hLr5
        have HRW := hide hrw
        have HGW := hide hgw
        have HSW := hide hsw
        have HVI : Hid (IntsIn wr.cell? (.slice av (negW p.gain p.gain.length).length cv) (goalW p.gain g).coef) := hide hv
        have HBW := hide hbw
        have HOK := hide (fun (hV : validB p = true) => withW_ok hV g (by have := HGB.out.1; omega) (by have := HGB.out.2; omega))
        obtain ⟨CF, hCF⟩ : ∃ CF, checkF p (withW p g) l = CF := ⟨_, rfl⟩
        rw [hCF] at HF
        have HCF := hide hCF
        have HWL : Hid ((withW p g).length ≤ 1001) := hide (by rw [withW_len]; omega)
        obtain ⟨m, hm⟩ : ∃ m, (negW p.gain p.gain.length).length = m := ⟨_, rfl⟩
        rw [hm] at hX HVI hown
        have q0 := bPr.cell 0 rfl
        have q1 := bPr.cell 1 rfl
        have q2 := bPr.cell 2 rfl
        have r0 := hX.cell 0 rfl
        have r1 := hX.cell 1 rfl
        have r2 := hX.cell 2 rfl
        have r3 := hX.cell 3 rfl
        have r4 := hX.cell 4 rfl
        have r5 := hX.cell 5 rfl
        have hrn : (p.rows.length : Int) ≤ 9223372036854775807 := by omega
        have hrc' : p.rows.length ≤ rc := hrc
        clear hCF hi hj0 hj1 hj2 hLr1 hLr2 hLr3 hLr4 hLr5 hrw hgw hsw hv hbw hr hg hs hX bPr hown hm p2 hbr hz3 bXw bP b1 Xb bR hRlt hlt hk e1 e2
        go_wp2_with fail
        refine wp_region_inv [some 35, some 36, some 37, some 38, some 39, some 40, some 41, some 42, some 43, some 44, some 45, some 46, some 47, some 48, some 49, some 34, some 50, some 51, some 10, some 11] (fun L vs W => match vs with | [x0, x1, x2, x3, x4, x5, x6, x7, x8, x9, x10, x11, x12, x13, x14, x15, x16, x17, x18, x19] => (Below wr.heap.size wr W) ∧ (L 0 = true → x0 = .agg #[.int .i64 p.vars, .slice ra p.rows.length rc, .slice ga p.gain.length gc]) ∧ (L 1 = true → x1 = .pointer (some ⟨w.heap.size, 1, none⟩)) ∧ (L 2 = true → x2 = .slice ra p.rows.length rc) ∧ (L 3 = true → x3 = .pointer (some ⟨w.heap.size, 1, none⟩)) ∧ (L 4 = true → x4 = .slice ra p.rows.length rc) ∧ (L 5 = true → x5 = .int .i64 p.rows.length) ∧ (L 6 = true → x6 = .pointer (some ⟨w.heap.size, 1, none⟩)) ∧ (L 7 = true → x7 = .slice ra p.rows.length rc) ∧ (L 8 = true → x8 = .int .i64 p.rows.length) ∧ (L 9 = true → x9 = .slice ra p.rows.length p.rows.length) ∧ (L 10 = true → x10 = rowV (goalW p.gain g) (.slice av m cv)) ∧ (L 11 = true → ∃ b8 : Nat, x11 = .slice (some ⟨b8, 0, none⟩) 1 1 ∧ Blk W b8 (rowCells (goalW p.gain g) (.slice av m cv)) 67) ∧ (L 12 = true → RowsAt W x12 (withW p g)) ∧ (L 13 = true → x13 = sv) ∧ (L 14 = true → ∃ mv, x14 = .tuple #[.int .i64 CF, .map mv]) ∧ (L 15 = true → ∃ mv, x15 = .tuple #[.int .i64 CF, .map mv]) ∧ (L 16 = true → x16 = .int .i64 CF) ∧ (L 17 = true → True) ∧ (L 18 = true → x18 = .int .i64 CF) ∧ (L 19 = true → True) | _ => False) [_, _, _, _, _, _, _, _, _, _, _, _, _, _, _, _, _, _, _, _] (by kernel_rfl) (by kernel_rfl) rfl (by simp only [puts, Act.put, List.setIfInBounds_toArray, List.set_cons_zero, List.set_cons_succ] <;> rfl) ?_ ?_ ?_
        · exact ⟨(Below.refl _ _).drew, (fun h => by cases h), (fun h => by cases h), (fun h => by cases h), (fun h => by cases h), (fun h => by cases h), (fun h => by cases h), (fun h => by cases h), (fun h => by cases h), (fun h => by cases h), (fun h => by cases h), (fun h => by cases h), (fun h => by cases h), (fun h => by cases h), (fun h => by cases h), (fun h => by cases h), (fun h => by cases h), (fun h => by cases h), (fun h => by cases h), (fun h => by cases h), (fun h => by cases h)⟩
        · refine ⟨?_, ?_, ?_, ?_, ?_, ?_, ?_, ?_, ?_, ?_, ?_, ?_, ?_, ?_, ?_, ?_, ?_, ?_, ?_, ?_, trivial⟩
          · intro L vs W hlen hL hD hI K hK
            obtain ⟨x0, x1, x2, x3, x4, x5, x6, x7, x8, x9, x10, x11, x12, x13, x14, x15, x16, x17, x18, x19, rfl⟩ := len20 hlen
            have hG := hI.1
            replace hI := hI.2
            have f0 := hide hI.1
            replace hI := hI.2
            have f1 := hide hI.1
            replace hI := hI.2
            have f2 := hide hI.1
            replace hI := hI.2
            have f3 := hide hI.1
            replace hI := hI.2
            have f4 := hide hI.1
            replace hI := hI.2
            have f5 := hide hI.1
            replace hI := hI.2
            have f6 := hide hI.1
            replace hI := hI.2
            have f7 := hide hI.1
            replace hI := hI.2
            have f8 := hide hI.1
            replace hI := hI.2
            have f9 := hide hI.1
            replace hI := hI.2
            have f10 := hide hI.1
            replace hI := hI.2
            have f11 := hide hI.1
            replace hI := hI.2
            have f12 := hide hI.1
            replace hI := hI.2
            have f13 := hide hI.1
            replace hI := hI.2
            have f14 := hide hI.1
            replace hI := hI.2
            have f15 := hide hI.1
            replace hI := hI.2
            have f16 := hide hI.1
            replace hI := hI.2
            have f17 := hide hI.1
            replace hI := hI.2
            have f18 := hide hI.1
            replace hI := hI.2
            have f19 := hide hI
            clear hI
            have q0 := keep hG q0
            have q1 := keep hG q1
            have q2 := keep hG q2
            have r0 := keep hG r0
            have r1 := keep hG r1
            have r2 := keep hG r2
            have r3 := keep hG r3
            have r4 := keep hG r4
            have r5 := keep hG r5
            try simp only [puts, Act.put, List.setIfInBounds_toArray, List.set_cons_zero, List.set_cons_succ]
            try go_simp
            exact hK.out _ _ _ (by simp only [puts, Act.put, List.setIfInBounds_toArray, List.set_cons_zero, List.set_cons_succ] <;> rfl) ⟨hG, (fun _ => rfl), (fun h => f1.out h), (fun h => f2.out h), (fun h => f3.out h), (fun h => f4.out h), (fun h => f5.out h), (fun h => f6.out h), (fun h => f7.out h), (fun h => f8.out h), (fun h => f9.out h), (fun h => f10.out h), (fun h => f11.out h), (fun h => f12.out h), (fun h => f13.out h), (fun h => f14.out h), (fun h => f15.out h), (fun h => f16.out h), (fun h => f17.out h), (fun h => f18.out h), (fun h => f19.out h)⟩
          · intro L vs W hlen hL hD hI K hK
            obtain ⟨x0, x1, x2, x3, x4, x5, x6, x7, x8, x9, x10, x11, x12, x13, x14, x15, x16, x17, x18, x19, rfl⟩ := len20 hlen
            have hG := hI.1
            replace hI := hI.2
            have f0 := hide hI.1
            replace hI := hI.2
            have f1 := hide hI.1
            replace hI := hI.2
            have f2 := hide hI.1
            replace hI := hI.2
            have f3 := hide hI.1
            replace hI := hI.2
            have f4 := hide hI.1
            replace hI := hI.2
            have f5 := hide hI.1
            replace hI := hI.2
            have f6 := hide hI.1
            replace hI := hI.2
            have f7 := hide hI.1
            replace hI := hI.2
            have f8 := hide hI.1
            replace hI := hI.2
            have f9 := hide hI.1
            replace hI := hI.2
            have f10 := hide hI.1
            replace hI := hI.2
            have f11 := hide hI.1
            replace hI := hI.2
            have f12 := hide hI.1
            replace hI := hI.2
            have f13 := hide hI.1
            replace hI := hI.2
            have f14 := hide hI.1
            replace hI := hI.2
            have f15 := hide hI.1
            replace hI := hI.2
            have f16 := hide hI.1
            replace hI := hI.2
            have f17 := hide hI.1
            replace hI := hI.2
            have f18 := hide hI.1
            replace hI := hI.2
            have f19 := hide hI
            clear hI
            have q0 := keep hG q0
            have q1 := keep hG q1
            have q2 := keep hG q2
            have r0 := keep hG r0
            have r1 := keep hG r1
            have r2 := keep hG r2
            have r3 := keep hG r3
            have r4 := keep hG r4
            have r5 := keep hG r5
            try simp only [puts, Act.put, List.setIfInBounds_toArray, List.set_cons_zero, List.set_cons_succ]
            try go_simp
            exact hK.out _ _ _ (by simp only [puts, Act.put, List.setIfInBounds_toArray, List.set_cons_zero, List.set_cons_succ] <;> rfl) ⟨hG, (fun h => f0.out h), (fun _ => rfl), (fun h => f2.out h), (fun h => f3.out h), (fun h => f4.out h), (fun h => f5.out h), (fun h => f6.out h), (fun h => f7.out h), (fun h => f8.out h), (fun h => f9.out h), (fun h => f10.out h), (fun h => f11.out h), (fun h => f12.out h), (fun h => f13.out h), (fun h => f14.out h), (fun h => f15.out h), (fun h => f16.out h), (fun h => f17.out h), (fun h => f18.out h), (fun h => f19.out h)⟩
          · intro L vs W hlen hL hD hI K hK
            obtain ⟨x0, x1, x2, x3, x4, x5, x6, x7, x8, x9, x10, x11, x12, x13, x14, x15, x16, x17, x18, x19, rfl⟩ := len20 hlen
            have hG := hI.1
            replace hI := hI.2
            have f0 := hide hI.1
            replace hI := hI.2
            have f1 := hide hI.1
            replace hI := hI.2
            have f2 := hide hI.1
            replace hI := hI.2
            have f3 := hide hI.1
            replace hI := hI.2
            have f4 := hide hI.1
            replace hI := hI.2
            have f5 := hide hI.1
            replace hI := hI.2
            have f6 := hide hI.1
            replace hI := hI.2
            have f7 := hide hI.1
            replace hI := hI.2
            have f8 := hide hI.1
            replace hI := hI.2
            have f9 := hide hI.1
            replace hI := hI.2
            have f10 := hide hI.1
            replace hI := hI.2
            have f11 := hide hI.1
            replace hI := hI.2
            have f12 := hide hI.1
            replace hI := hI.2
            have f13 := hide hI.1
            replace hI := hI.2
            have f14 := hide hI.1
            replace hI := hI.2
            have f15 := hide hI.1
            replace hI := hI.2
            have f16 := hide hI.1
            replace hI := hI.2
            have f17 := hide hI.1
            replace hI := hI.2
            have f18 := hide hI.1
            replace hI := hI.2
            have f19 := hide hI
            clear hI
            have q0 := keep hG q0
            have q1 := keep hG q1
            have q2 := keep hG q2
            have r0 := keep hG r0
            have r1 := keep hG r1
            have r2 := keep hG r2
            have r3 := keep hG r3
            have r4 := keep hG r4
            have r5 := keep hG r5
            obtain rfl := f1.out (hD.on 1 (by kernel_rfl))
            try simp only [puts, Act.put, List.setIfInBounds_toArray, List.set_cons_zero, List.set_cons_succ]
            try go_simp
            exact hK.out _ _ _ (by simp only [puts, Act.put, List.setIfInBounds_toArray, List.set_cons_zero, List.set_cons_succ] <;> rfl) ⟨hG, (fun h => f0.out h), (fun h => f1.out h), (fun _ => rfl), (fun h => f3.out h), (fun h => f4.out h), (fun h => f5.out h), (fun h => f6.out h), (fun h => f7.out h), (fun h => f8.out h), (fun h => f9.out h), (fun h => f10.out h), (fun h => f11.out h), (fun h => f12.out h), (fun h => f13.out h), (fun h => f14.out h), (fun h => f15.out h), (fun h => f16.out h), (fun h => f17.out h), (fun h => f18.out h), (fun h => f19.out h)⟩
          · intro L vs W hlen hL hD hI K hK
            obtain ⟨x0, x1, x2, x3, x4, x5, x6, x7, x8, x9, x10, x11, x12, x13, x14, x15, x16, x17, x18, x19, rfl⟩ := len20 hlen
            have hG := hI.1
            replace hI := hI.2
            have f0 := hide hI.1
            replace hI := hI.2
            have f1 := hide hI.1
            replace hI := hI.2
            have f2 := hide hI.1
            replace hI := hI.2
            have f3 := hide hI.1
            replace hI := hI.2
            have f4 := hide hI.1
            replace hI := hI.2
            have f5 := hide hI.1
            replace hI := hI.2
            have f6 := hide hI.1
            replace hI := hI.2
            have f7 := hide hI.1
            replace hI := hI.2
            have f8 := hide hI.1
            replace hI := hI.2
            have f9 := hide hI.1
            replace hI := hI.2
            have f10 := hide hI.1
            replace hI := hI.2
            have f11 := hide hI.1
            replace hI := hI.2
            have f12 := hide hI.1
            replace hI := hI.2
            have f13 := hide hI.1
            replace hI := hI.2
            have f14 := hide hI.1
            replace hI := hI.2
            have f15 := hide hI.1
            replace hI := hI.2
            have f16 := hide hI.1
            replace hI := hI.2
            have f17 := hide hI.1
            replace hI := hI.2
            have f18 := hide hI.1
            replace hI := hI.2
            have f19 := hide hI
            clear hI
            have q0 := keep hG q0
            have q1 := keep hG q1
            have q2 := keep hG q2
            have r0 := keep hG r0
            have r1 := keep hG r1
            have r2 := keep hG r2
            have r3 := keep hG r3
            have r4 := keep hG r4
            have r5 := keep hG r5
            try simp only [puts, Act.put, List.setIfInBounds_toArray, List.set_cons_zero, List.set_cons_succ]
            try go_simp
            exact hK.out _ _ _ (by simp only [puts, Act.put, List.setIfInBounds_toArray, List.set_cons_zero, List.set_cons_succ] <;> rfl) ⟨hG, (fun h => f0.out h), (fun h => f1.out h), (fun h => f2.out h), (fun _ => rfl), (fun h => f4.out h), (fun h => f5.out h), (fun h => f6.out h), (fun h => f7.out h), (fun h => f8.out h), (fun h => f9.out h), (fun h => f10.out h), (fun h => f11.out h), (fun h => f12.out h), (fun h => f13.out h), (fun h => f14.out h), (fun h => f15.out h), (fun h => f16.out h), (fun h => f17.out h), (fun h => f18.out h), (fun h => f19.out h)⟩
          · intro L vs W hlen hL hD hI K hK
            obtain ⟨x0, x1, x2, x3, x4, x5, x6, x7, x8, x9, x10, x11, x12, x13, x14, x15, x16, x17, x18, x19, rfl⟩ := len20 hlen
            have hG := hI.1
            replace hI := hI.2
            have f0 := hide hI.1
            replace hI := hI.2
            have f1 := hide hI.1
            replace hI := hI.2
            have f2 := hide hI.1
            replace hI := hI.2
            have f3 := hide hI.1
            replace hI := hI.2
            have f4 := hide hI.1
            replace hI := hI.2
            have f5 := hide hI.1
            replace hI := hI.2
            have f6 := hide hI.1
            replace hI := hI.2
            have f7 := hide hI.1
            replace hI := hI.2
            have f8 := hide hI.1
            replace hI := hI.2
            have f9 := hide hI.1
            replace hI := hI.2
            have f10 := hide hI.1
            replace hI := hI.2
            have f11 := hide hI.1
            replace hI := hI.2
            have f12 := hide hI.1
            replace hI := hI.2
            have f13 := hide hI.1
            replace hI := hI.2
            have f14 := hide hI.1
            replace hI := hI.2
            have f15 := hide hI.1
            replace hI := hI.2
            have f16 := hide hI.1
            replace hI := hI.2
            have f17 := hide hI.1
            replace hI := hI.2
            have f18 := hide hI.1
            replace hI := hI.2
            have f19 := hide hI
            clear hI
            have q0 := keep hG q0
            have q1 := keep hG q1
            have q2 := keep hG q2
            have r0 := keep hG r0
            have r1 := keep hG r1
            have r2 := keep hG r2
            have r3 := keep hG r3
            have r4 := keep hG r4
            have r5 := keep hG r5
            obtain rfl := f3.out (hD.on 3 (by kernel_rfl))
            try simp only [puts, Act.put, List.setIfInBounds_toArray, List.set_cons_zero, List.set_cons_succ]
            try go_simp
            exact hK.out _ _ _ (by simp only [puts, Act.put, List.setIfInBounds_toArray, List.set_cons_zero, List.set_cons_succ] <;> rfl) ⟨hG, (fun h => f0.out h), (fun h => f1.out h), (fun h => f2.out h), (fun h => f3.out h), (fun _ => rfl), (fun h => f5.out h), (fun h => f6.out h), (fun h => f7.out h), (fun h => f8.out h), (fun h => f9.out h), (fun h => f10.out h), (fun h => f11.out h), (fun h => f12.out h), (fun h => f13.out h), (fun h => f14.out h), (fun h => f15.out h), (fun h => f16.out h), (fun h => f17.out h), (fun h => f18.out h), (fun h => f19.out h)⟩
          · intro L vs W hlen hL hD hI K hK
            obtain ⟨x0, x1, x2, x3, x4, x5, x6, x7, x8, x9, x10, x11, x12, x13, x14, x15, x16, x17, x18, x19, rfl⟩ := len20 hlen
            have hG := hI.1
            replace hI := hI.2
            have f0 := hide hI.1
            replace hI := hI.2
            have f1 := hide hI.1
            replace hI := hI.2
            have f2 := hide hI.1
            replace hI := hI.2
            have f3 := hide hI.1
            replace hI := hI.2
            have f4 := hide hI.1
            replace hI := hI.2
            have f5 := hide hI.1
            replace hI := hI.2
            have f6 := hide hI.1
            replace hI := hI.2
            have f7 := hide hI.1
            replace hI := hI.2
            have f8 := hide hI.1
            replace hI := hI.2
            have f9 := hide hI.1
            replace hI := hI.2
            have f10 := hide hI.1
            replace hI := hI.2
            have f11 := hide hI.1
            replace hI := hI.2
            have f12 := hide hI.1
            replace hI := hI.2
            have f13 := hide hI.1
            replace hI := hI.2
            have f14 := hide hI.1
            replace hI := hI.2
            have f15 := hide hI.1
            replace hI := hI.2
            have f16 := hide hI.1
            replace hI := hI.2
            have f17 := hide hI.1
            replace hI := hI.2
            have f18 := hide hI.1
            replace hI := hI.2
            have f19 := hide hI
            clear hI
            have q0 := keep hG q0
            have q1 := keep hG q1
            have q2 := keep hG q2
            have r0 := keep hG r0
            have r1 := keep hG r1
            have r2 := keep hG r2
            have r3 := keep hG r3
            have r4 := keep hG r4
            have r5 := keep hG r5
            obtain rfl := f4.out (hD.on 4 (by kernel_rfl))
            try simp only [puts, Act.put, List.setIfInBounds_toArray, List.set_cons_zero, List.set_cons_succ]
            try go_simp
            exact hK.out _ _ _ (by simp only [puts, Act.put, List.setIfInBounds_toArray, List.set_cons_zero, List.set_cons_succ] <;> rfl) ⟨hG, (fun h => f0.out h), (fun h => f1.out h), (fun h => f2.out h), (fun h => f3.out h), (fun h => f4.out h), (fun _ => rfl), (fun h => f6.out h), (fun h => f7.out h), (fun h => f8.out h), (fun h => f9.out h), (fun h => f10.out h), (fun h => f11.out h), (fun h => f12.out h), (fun h => f13.out h), (fun h => f14.out h), (fun h => f15.out h), (fun h => f16.out h), (fun h => f17.out h), (fun h => f18.out h), (fun h => f19.out h)⟩
          · intro L vs W hlen hL hD hI K hK
            obtain ⟨x0, x1, x2, x3, x4, x5, x6, x7, x8, x9, x10, x11, x12, x13, x14, x15, x16, x17, x18, x19, rfl⟩ := len20 hlen
            have hG := hI.1
            replace hI := hI.2
            have f0 := hide hI.1
            replace hI := hI.2
            have f1 := hide hI.1
            replace hI := hI.2
            have f2 := hide hI.1
            replace hI := hI.2
            have f3 := hide hI.1
            replace hI := hI.2
            have f4 := hide hI.1
            replace hI := hI.2
            have f5 := hide hI.1
            replace hI := hI.2
            have f6 := hide hI.1
            replace hI := hI.2
            have f7 := hide hI.1
            replace hI := hI.2
            have f8 := hide hI.1
            replace hI := hI.2
            have f9 := hide hI.1
            replace hI := hI.2
            have f10 := hide hI.1
            replace hI := hI.2
            have f11 := hide hI.1
            replace hI := hI.2
            have f12 := hide hI.1
            replace hI := hI.2
            have f13 := hide hI.1
            replace hI := hI.2
            have f14 := hide hI.1
            replace hI := hI.2
            have f15 := hide hI.1
            replace hI := hI.2
            have f16 := hide hI.1
            replace hI := hI.2
            have f17 := hide hI.1
            replace hI := hI.2
            have f18 := hide hI.1
            replace hI := hI.2
            have f19 := hide hI
            clear hI
            have q0 := keep hG q0
            have q1 := keep hG q1
            have q2 := keep hG q2
            have r0 := keep hG r0
            have r1 := keep hG r1
            have r2 := keep hG r2
            have r3 := keep hG r3
            have r4 := keep hG r4
            have r5 := keep hG r5
            try simp only [puts, Act.put, List.setIfInBounds_toArray, List.set_cons_zero, List.set_cons_succ]
            try go_simp
            exact hK.out _ _ _ (by simp only [puts, Act.put, List.setIfInBounds_toArray, List.set_cons_zero, List.set_cons_succ] <;> rfl) ⟨hG, (fun h => f0.out h), (fun h => f1.out h), (fun h => f2.out h), (fun h => f3.out h), (fun h => f4.out h), (fun h => f5.out h), (fun _ => rfl), (fun h => f7.out h), (fun h => f8.out h), (fun h => f9.out h), (fun h => f10.out h), (fun h => f11.out h), (fun h => f12.out h), (fun h => f13.out h), (fun h => f14.out h), (fun h => f15.out h), (fun h => f16.out h), (fun h => f17.out h), (fun h => f18.out h), (fun h => f19.out h)⟩
          · intro L vs W hlen hL hD hI K hK
            obtain ⟨x0, x1, x2, x3, x4, x5, x6, x7, x8, x9, x10, x11, x12, x13, x14, x15, x16, x17, x18, x19, rfl⟩ := len20 hlen
            have hG := hI.1
            replace hI := hI.2
            have f0 := hide hI.1
            replace hI := hI.2
            have f1 := hide hI.1
            replace hI := hI.2
            have f2 := hide hI.1
            replace hI := hI.2
            have f3 := hide hI.1
            replace hI := hI.2
            have f4 := hide hI.1
            replace hI := hI.2
            have f5 := hide hI.1
            replace hI := hI.2
            have f6 := hide hI.1
            replace hI := hI.2
            have f7 := hide hI.1
            replace hI := hI.2
            have f8 := hide hI.1
            replace hI := hI.2
            have f9 := hide hI.1
            replace hI := hI.2
            have f10 := hide hI.1
            replace hI := hI.2
            have f11 := hide hI.1
            replace hI := hI.2
            have f12 := hide hI.1
            replace hI := hI.2
            have f13 := hide hI.1
            replace hI := hI.2
            have f14 := hide hI.1
            replace hI := hI.2
            have f15 := hide hI.1
            replace hI := hI.2
            have f16 := hide hI.1
            replace hI := hI.2
            have f17 := hide hI.1
            replace hI := hI.2
            have f18 := hide hI.1
            replace hI := hI.2
            have f19 := hide hI
            clear hI
            have q0 := keep hG q0
            have q1 := keep hG q1
            have q2 := keep hG q2
            have r0 := keep hG r0
            have r1 := keep hG r1
            have r2 := keep hG r2
            have r3 := keep hG r3
            have r4 := keep hG r4
            have r5 := keep hG r5
            obtain rfl := f6.out (hD.on 6 (by kernel_rfl))
            try simp only [puts, Act.put, List.setIfInBounds_toArray, List.set_cons_zero, List.set_cons_succ]
            try go_simp
            exact hK.out _ _ _ (by simp only [puts, Act.put, List.setIfInBounds_toArray, List.set_cons_zero, List.set_cons_succ] <;> rfl) ⟨hG, (fun h => f0.out h), (fun h => f1.out h), (fun h => f2.out h), (fun h => f3.out h), (fun h => f4.out h), (fun h => f5.out h), (fun h => f6.out h), (fun _ => rfl), (fun h => f8.out h), (fun h => f9.out h), (fun h => f10.out h), (fun h => f11.out h), (fun h => f12.out h), (fun h => f13.out h), (fun h => f14.out h), (fun h => f15.out h), (fun h => f16.out h), (fun h => f17.out h), (fun h => f18.out h), (fun h => f19.out h)⟩
          · intro L vs W hlen hL hD hI K hK
            obtain ⟨x0, x1, x2, x3, x4, x5, x6, x7, x8, x9, x10, x11, x12, x13, x14, x15, x16, x17, x18, x19, rfl⟩ := len20 hlen
            have hG := hI.1
            replace hI := hI.2
            have f0 := hide hI.1
            replace hI := hI.2
            have f1 := hide hI.1
            replace hI := hI.2
            have f2 := hide hI.1
            replace hI := hI.2
            have f3 := hide hI.1
            replace hI := hI.2
            have f4 := hide hI.1
            replace hI := hI.2
            have f5 := hide hI.1
            replace hI := hI.2
            have f6 := hide hI.1
            replace hI := hI.2
            have f7 := hide hI.1
            replace hI := hI.2
            have f8 := hide hI.1
            replace hI := hI.2
            have f9 := hide hI.1
            replace hI := hI.2
            have f10 := hide hI.1
            replace hI := hI.2
            have f11 := hide hI.1
            replace hI := hI.2
            have f12 := hide hI.1
            replace hI := hI.2
            have f13 := hide hI.1
            replace hI := hI.2
            have f14 := hide hI.1
            replace hI := hI.2
            have f15 := hide hI.1
            replace hI := hI.2
            have f16 := hide hI.1
            replace hI := hI.2
            have f17 := hide hI.1
            replace hI := hI.2
            have f18 := hide hI.1
            replace hI := hI.2
            have f19 := hide hI
            clear hI
            have q0 := keep hG q0
            have q1 := keep hG q1
            have q2 := keep hG q2
            have r0 := keep hG r0
            have r1 := keep hG r1
            have r2 := keep hG r2
            have r3 := keep hG r3
            have r4 := keep hG r4
            have r5 := keep hG r5
            obtain rfl := f7.out (hD.on 7 (by kernel_rfl))
            try simp only [puts, Act.put, List.setIfInBounds_toArray, List.set_cons_zero, List.set_cons_succ]
            try go_simp
            exact hK.out _ _ _ (by simp only [puts, Act.put, List.setIfInBounds_toArray, List.set_cons_zero, List.set_cons_succ] <;> rfl) ⟨hG, (fun h => f0.out h), (fun h => f1.out h), (fun h => f2.out h), (fun h => f3.out h), (fun h => f4.out h), (fun h => f5.out h), (fun h => f6.out h), (fun h => f7.out h), (fun _ => rfl), (fun h => f9.out h), (fun h => f10.out h), (fun h => f11.out h), (fun h => f12.out h), (fun h => f13.out h), (fun h => f14.out h), (fun h => f15.out h), (fun h => f16.out h), (fun h => f17.out h), (fun h => f18.out h), (fun h => f19.out h)⟩
          · intro L vs W hlen hL hD hI K hK
            obtain ⟨x0, x1, x2, x3, x4, x5, x6, x7, x8, x9, x10, x11, x12, x13, x14, x15, x16, x17, x18, x19, rfl⟩ := len20 hlen
            have hG := hI.1
            replace hI := hI.2
            have f0 := hide hI.1
            replace hI := hI.2
            have f1 := hide hI.1
            replace hI := hI.2
            have f2 := hide hI.1
            replace hI := hI.2
            have f3 := hide hI.1
            replace hI := hI.2
            have f4 := hide hI.1
            replace hI := hI.2
            have f5 := hide hI.1
            replace hI := hI.2
            have f6 := hide hI.1
            replace hI := hI.2
            have f7 := hide hI.1
            replace hI := hI.2
            have f8 := hide hI.1
            replace hI := hI.2
            have f9 := hide hI.1
            replace hI := hI.2
            have f10 := hide hI.1
            replace hI := hI.2
            have f11 := hide hI.1
            replace hI := hI.2
            have f12 := hide hI.1
            replace hI := hI.2
            have f13 := hide hI.1
            replace hI := hI.2
            have f14 := hide hI.1
            replace hI := hI.2
            have f15 := hide hI.1
            replace hI := hI.2
            have f16 := hide hI.1
            replace hI := hI.2
            have f17 := hide hI.1
            replace hI := hI.2
            have f18 := hide hI.1
            replace hI := hI.2
            have f19 := hide hI
            clear hI
            have q0 := keep hG q0
            have q1 := keep hG q1
            have q2 := keep hG q2
            have r0 := keep hG r0
            have r1 := keep hG r1
            have r2 := keep hG r2
            have r3 := keep hG r3
            have r4 := keep hG r4
            have r5 := keep hG r5
            obtain rfl := f2.out (hD.on 2 (by kernel_rfl))
            obtain rfl := f5.out (hD.on 5 (by kernel_rfl))
            obtain rfl := f8.out (hD.on 8 (by kernel_rfl))
            try simp only [puts, Act.put, List.setIfInBounds_toArray, List.set_cons_zero, List.set_cons_succ]
            try go_simp
            exact hK.out _ _ _ (by simp only [puts, Act.put, List.setIfInBounds_toArray, List.set_cons_zero, List.set_cons_succ] <;> rfl) ⟨hG, (fun h => f0.out h), (fun h => f1.out h), (fun h => f2.out h), (fun h => f3.out h), (fun h => f4.out h), (fun h => f5.out h), (fun h => f6.out h), (fun h => f7.out h), (fun h => f8.out h), (fun _ => rfl), (fun h => f10.out h), (fun h => f11.out h), (fun h => f12.out h), (fun h => f13.out h), (fun h => f14.out h), (fun h => f15.out h), (fun h => f16.out h), (fun h => f17.out h), (fun h => f18.out h), (fun h => f19.out h)⟩
          · intro L vs W hlen hL hD hI K hK
            obtain ⟨x0, x1, x2, x3, x4, x5, x6, x7, x8, x9, x10, x11, x12, x13, x14, x15, x16, x17, x18, x19, rfl⟩ := len20 hlen
            have hG := hI.1
            replace hI := hI.2
            have f0 := hide hI.1
            replace hI := hI.2
            have f1 := hide hI.1
            replace hI := hI.2
            have f2 := hide hI.1
            replace hI := hI.2
            have f3 := hide hI.1
            replace hI := hI.2
            have f4 := hide hI.1
            replace hI := hI.2
            have f5 := hide hI.1
            replace hI := hI.2
            have f6 := hide hI.1
            replace hI := hI.2
            have f7 := hide hI.1
            replace hI := hI.2
            have f8 := hide hI.1
            replace hI := hI.2
            have f9 := hide hI.1
            replace hI := hI.2
            have f10 := hide hI.1
            replace hI := hI.2
            have f11 := hide hI.1
            replace hI := hI.2
            have f12 := hide hI.1
            replace hI := hI.2
            have f13 := hide hI.1
            replace hI := hI.2
            have f14 := hide hI.1
            replace hI := hI.2
            have f15 := hide hI.1
            replace hI := hI.2
            have f16 := hide hI.1
            replace hI := hI.2
            have f17 := hide hI.1
            replace hI := hI.2
            have f18 := hide hI.1
            replace hI := hI.2
            have f19 := hide hI
            clear hI
            have q0 := keep hG q0
            have q1 := keep hG q1
            have q2 := keep hG q2
            have r0 := keep hG r0
            have r1 := keep hG r1
            have r2 := keep hG r2
            have r3 := keep hG r3
            have r4 := keep hG r4
            have r5 := keep hG r5
            try simp only [puts, Act.put, List.setIfInBounds_toArray, List.set_cons_zero, List.set_cons_succ]
            try go_simp
            exact hK.out _ _ _ (by simp only [puts, Act.put, List.setIfInBounds_toArray, List.set_cons_zero, List.set_cons_succ] <;> rfl) ⟨hG, (fun h => f0.out h), (fun h => f1.out h), (fun h => f2.out h), (fun h => f3.out h), (fun h => f4.out h), (fun h => f5.out h), (fun h => f6.out h), (fun h => f7.out h), (fun h => f8.out h), (fun h => f9.out h), (fun _ => rfl), (fun h => f11.out h), (fun h => f12.out h), (fun h => f13.out h), (fun h => f14.out h), (fun h => f15.out h), (fun h => f16.out h), (fun h => f17.out h), (fun h => f18.out h), (fun h => f19.out h)⟩
          · intro L vs W hlen hL hD hI K hK
            obtain ⟨x0, x1, x2, x3, x4, x5, x6, x7, x8, x9, x10, x11, x12, x13, x14, x15, x16, x17, x18, x19, rfl⟩ := len20 hlen
            have hG := hI.1
            replace hI := hI.2
            have f0 := hide hI.1
            replace hI := hI.2
            have f1 := hide hI.1
            replace hI := hI.2
            have f2 := hide hI.1
            replace hI := hI.2
            have f3 := hide hI.1
            replace hI := hI.2
            have f4 := hide hI.1
            replace hI := hI.2
            have f5 := hide hI.1
            replace hI := hI.2
            have f6 := hide hI.1
            replace hI := hI.2
            have f7 := hide hI.1
            replace hI := hI.2
            have f8 := hide hI.1
            replace hI := hI.2
            have f9 := hide hI.1
            replace hI := hI.2
            have f10 := hide hI.1
            replace hI := hI.2
            have f11 := hide hI.1
            replace hI := hI.2
            have f12 := hide hI.1
            replace hI := hI.2
            have f13 := hide hI.1
            replace hI := hI.2
            have f14 := hide hI.1
            replace hI := hI.2
            have f15 := hide hI.1
            replace hI := hI.2
            have f16 := hide hI.1
            replace hI := hI.2
            have f17 := hide hI.1
            replace hI := hI.2
            have f18 := hide hI.1
            replace hI := hI.2
            have f19 := hide hI
            clear hI
            have q0 := keep hG q0
            have q1 := keep hG q1
            have q2 := keep hG q2
            have r0 := keep hG r0
            have r1 := keep hG r1
            have r2 := keep hG r2
            have r3 := keep hG r3
            have r4 := keep hG r4
            have r5 := keep hG r5
            obtain rfl := f10.out (hD.on 10 (by kernel_rfl))
            try simp only [puts, Act.put, List.setIfInBounds_toArray, List.set_cons_zero, List.set_cons_succ]
            try go_simp
            generalize hW' : World.alloc W _ = W'
            have hb : Below W.heap.size W W' := by rw [← hW']; exact bal W _
            exact hK.out _ _ _ (by simp only [puts, Act.put, List.setIfInBounds_toArray, List.set_cons_zero, List.set_cons_succ] <;> rfl) ⟨below2 hG hb, (fun h => f0.out h), (fun h => f1.out h), (fun h => f2.out h), (fun h => f3.out h), (fun h => f4.out h), (fun h => f5.out h), (fun h => f6.out h), (fun h => f7.out h), (fun h => f8.out h), (fun h => f9.out h), (fun h => f10.out h), (fun _ => ⟨W.heap.size, rfl, by rw [← hW']; exact Blk.newA W _ rfl⟩), (fun h => (fun h => RowsAt.below hb h) (f12.out h)), (fun h => f13.out h), (fun h => (fun h => h) (f14.out h)), (fun h => (fun h => h) (f15.out h)), (fun h => f16.out h), (fun h => f17.out h), (fun h => f18.out h), (fun h => f19.out h)⟩
          · intro L vs W hlen hL hD hI K hK
            obtain ⟨x0, x1, x2, x3, x4, x5, x6, x7, x8, x9, x10, x11, x12, x13, x14, x15, x16, x17, x18, x19, rfl⟩ := len20 hlen
            have hG := hI.1
            replace hI := hI.2
            have f0 := hide hI.1
            replace hI := hI.2
            have f1 := hide hI.1
            replace hI := hI.2
            have f2 := hide hI.1
            replace hI := hI.2
            have f3 := hide hI.1
            replace hI := hI.2
            have f4 := hide hI.1
            replace hI := hI.2
            have f5 := hide hI.1
            replace hI := hI.2
            have f6 := hide hI.1
            replace hI := hI.2
            have f7 := hide hI.1
            replace hI := hI.2
            have f8 := hide hI.1
            replace hI := hI.2
            have f9 := hide hI.1
            replace hI := hI.2
            have f10 := hide hI.1
            replace hI := hI.2
            have f11 := hide hI.1
            replace hI := hI.2
            have f12 := hide hI.1
            replace hI := hI.2
            have f13 := hide hI.1
            replace hI := hI.2
            have f14 := hide hI.1
            replace hI := hI.2
            have f15 := hide hI.1
            replace hI := hI.2
            have f16 := hide hI.1
            replace hI := hI.2
            have f17 := hide hI.1
            replace hI := hI.2
            have f18 := hide hI.1
            replace hI := hI.2
            have f19 := hide hI
            clear hI
            have q0 := keep hG q0
            have q1 := keep hG q1
            have q2 := keep hG q2
            have r0 := keep hG r0
            have r1 := keep hG r1
            have r2 := keep hG r2
            have r3 := keep hG r3
            have r4 := keep hG r4
            have r5 := keep hG r5
            obtain rfl := f9.out (hD.on 9 (by kernel_rfl))
            have g11 := f11.out (hD.on 11 (by kernel_rfl))
            try simp only [puts, Act.put, List.setIfInBounds_toArray, List.set_cons_zero, List.set_cons_succ]
            obtain ⟨b8, rfl, hB8⟩ := g11
            refine step_grows3 rfl _ _ 24 rfl 67 i0 _ 6 64 Try.underlying24 HJ.out.1 HJ.out.2.1 HJ.out.2.2.1 HJ.out.2.2.2 rfl (by decide) ra p.rows.length p.rows.length Lr.flatten rfl (fun e => ⟨by rw [L5.out e]; rfl, by rw [L5.out e]; rfl⟩) (by rw [flat_len L2.out, L1.out]) (fun b e j u hj => keep hG (L4.out b e j u hj)) ⟨b8, 0, none⟩ 1 1 (rowCells (goalW p.gain g) (.slice av m cv)) rfl rfl (fun j u hj => by have := hB8.cell j hj ; cases j <;> simpa [Addr.add] using this) cells6 (by omega) (by unfold maxLen ; omega) (by omega) ?_
            intro v' W' hO hg
            have hb := below_of_grown hg
            exact hK.out _ _ _ (by simp only [puts, Act.put, List.setIfInBounds_toArray, List.set_cons_zero, List.set_cons_succ] <;> rfl) ⟨below2 hG hb, (fun h => f0.out h), (fun h => f1.out h), (fun h => f2.out h), (fun h => f3.out h), (fun h => f4.out h), (fun h => f5.out h), (fun h => f6.out h), (fun h => f7.out h), (fun h => f8.out h), (fun h => f9.out h), (fun h => f10.out h), (fun h => (fun h => let ⟨b8, e, hB⟩ := h; ⟨b8, e, hB.later hb⟩) (f11.out h)), (fun _ => grown_rows L1.out L2.out (fun i hi => let ⟨cv, e, hc⟩ := L3.out i hi; ⟨cv, e, hc.keeps (keeps_of_below hG)⟩) (IntsIn.keeps (keeps_of_below hG) HVI.out) hg hO), (fun h => f13.out h), (fun h => (fun h => h) (f14.out h)), (fun h => (fun h => h) (f15.out h)), (fun h => f16.out h), (fun h => f17.out h), (fun h => f18.out h), (fun h => f19.out h)⟩
          · intro L vs W hlen hL hD hI K hK
            obtain ⟨x0, x1, x2, x3, x4, x5, x6, x7, x8, x9, x10, x11, x12, x13, x14, x15, x16, x17, x18, x19, rfl⟩ := len20 hlen
            have hG := hI.1
            replace hI := hI.2
            have f0 := hide hI.1
            replace hI := hI.2
            have f1 := hide hI.1
            replace hI := hI.2
            have f2 := hide hI.1
            replace hI := hI.2
            have f3 := hide hI.1
            replace hI := hI.2
            have f4 := hide hI.1
            replace hI := hI.2
            have f5 := hide hI.1
            replace hI := hI.2
            have f6 := hide hI.1
            replace hI := hI.2
            have f7 := hide hI.1
            replace hI := hI.2
            have f8 := hide hI.1
            replace hI := hI.2
            have f9 := hide hI.1
            replace hI := hI.2
            have f10 := hide hI.1
            replace hI := hI.2
            have f11 := hide hI.1
            replace hI := hI.2
            have f12 := hide hI.1
            replace hI := hI.2
            have f13 := hide hI.1
            replace hI := hI.2
            have f14 := hide hI.1
            replace hI := hI.2
            have f15 := hide hI.1
            replace hI := hI.2
            have f16 := hide hI.1
            replace hI := hI.2
            have f17 := hide hI.1
            replace hI := hI.2
            have f18 := hide hI.1
            replace hI := hI.2
            have f19 := hide hI
            clear hI
            have q0 := keep hG q0
            have q1 := keep hG q1
            have q2 := keep hG q2
            have r0 := keep hG r0
            have r1 := keep hG r1
            have r2 := keep hG r2
            have r3 := keep hG r3
            have r4 := keep hG r4
            have r5 := keep hG r5
            try simp only [puts, Act.put, List.setIfInBounds_toArray, List.set_cons_zero, List.set_cons_succ]
            try go_simp
            exact hK.out _ _ _ (by simp only [puts, Act.put, List.setIfInBounds_toArray, List.set_cons_zero, List.set_cons_succ] <;> rfl) ⟨hG, (fun h => f0.out h), (fun h => f1.out h), (fun h => f2.out h), (fun h => f3.out h), (fun h => f4.out h), (fun h => f5.out h), (fun h => f6.out h), (fun h => f7.out h), (fun h => f8.out h), (fun h => f9.out h), (fun h => f10.out h), (fun h => f11.out h), (fun h => f12.out h), (fun _ => rfl), (fun h => f14.out h), (fun h => f15.out h), (fun h => f16.out h), (fun h => f17.out h), (fun h => f18.out h), (fun h => f19.out h)⟩
          · intro L vs W hlen hL hD hI K hK
            obtain ⟨x0, x1, x2, x3, x4, x5, x6, x7, x8, x9, x10, x11, x12, x13, x14, x15, x16, x17, x18, x19, rfl⟩ := len20 hlen
            have hG := hI.1
            replace hI := hI.2
            have f0 := hide hI.1
            replace hI := hI.2
            have f1 := hide hI.1
            replace hI := hI.2
            have f2 := hide hI.1
            replace hI := hI.2
            have f3 := hide hI.1
            replace hI := hI.2
            have f4 := hide hI.1
            replace hI := hI.2
            have f5 := hide hI.1
            replace hI := hI.2
            have f6 := hide hI.1
            replace hI := hI.2
            have f7 := hide hI.1
            replace hI := hI.2
            have f8 := hide hI.1
            replace hI := hI.2
            have f9 := hide hI.1
            replace hI := hI.2
            have f10 := hide hI.1
            replace hI := hI.2
            have f11 := hide hI.1
            replace hI := hI.2
            have f12 := hide hI.1
            replace hI := hI.2
            have f13 := hide hI.1
            replace hI := hI.2
            have f14 := hide hI.1
            replace hI := hI.2
            have f15 := hide hI.1
            replace hI := hI.2
            have f16 := hide hI.1
            replace hI := hI.2
            have f17 := hide hI.1
            replace hI := hI.2
            have f18 := hide hI.1
            replace hI := hI.2
            have f19 := hide hI
            clear hI
            have q0 := keep hG q0
            have q1 := keep hG q1
            have q2 := keep hG q2
            have r0 := keep hG r0
            have r1 := keep hG r1
            have r2 := keep hG r2
            have r3 := keep hG r3
            have r4 := keep hG r4
            have r5 := keep hG r5
            obtain rfl := f0.out (hD.on 0 (by kernel_rfl))
            have g12 := f12.out (hD.on 12 (by kernel_rfl))
            obtain rfl := f13.out (hD.on 13 (by kernel_rfl))
            try simp only [puts, Act.put, List.setIfInBounds_toArray, List.set_cons_zero, List.set_cons_succ]
            try go_simp
            refine (check_any p _ _ (withW p g) _ l _ W (HRW.out.below hG) (HGW.out.below hG) g12 (HSW.out.keeps (keeps_of_below hG)) (fun hV => by rw [withW_len] ; have := (valid_parts hV).2.2.1 ; omega) HOK.out).mono ?_
            rw [HCF.out]
            rintro e W' ⟨hbb, mv, rfl, -, -⟩
            try go_simp
            have hb := hbb
            exact hK.out _ _ _ (by simp only [puts, Act.put, List.setIfInBounds_toArray, List.set_cons_zero, List.set_cons_succ] <;> rfl) ⟨below2 hG hb, (fun h => f0.out h), (fun h => f1.out h), (fun h => f2.out h), (fun h => f3.out h), (fun h => f4.out h), (fun h => f5.out h), (fun h => f6.out h), (fun h => f7.out h), (fun h => f8.out h), (fun h => f9.out h), (fun h => f10.out h), (fun h => (fun h => let ⟨b8, e, hB⟩ := h; ⟨b8, e, hB.later hb⟩) (f11.out h)), (fun h => (fun h => RowsAt.below hb h) (f12.out h)), (fun h => f13.out h), (fun _ => ⟨mv, rfl⟩), (fun h => (fun h => h) (f15.out h)), (fun h => f16.out h), (fun h => f17.out h), (fun h => f18.out h), (fun h => f19.out h)⟩
          · intro L vs W hlen hL hD hI K hK
            obtain ⟨x0, x1, x2, x3, x4, x5, x6, x7, x8, x9, x10, x11, x12, x13, x14, x15, x16, x17, x18, x19, rfl⟩ := len20 hlen
            have hG := hI.1
            replace hI := hI.2
            have f0 := hide hI.1
            replace hI := hI.2
            have f1 := hide hI.1
            replace hI := hI.2
            have f2 := hide hI.1
            replace hI := hI.2
            have f3 := hide hI.1
            replace hI := hI.2
            have f4 := hide hI.1
            replace hI := hI.2
            have f5 := hide hI.1
            replace hI := hI.2
            have f6 := hide hI.1
            replace hI := hI.2
            have f7 := hide hI.1
            replace hI := hI.2
            have f8 := hide hI.1
            replace hI := hI.2
            have f9 := hide hI.1
            replace hI := hI.2
            have f10 := hide hI.1
            replace hI := hI.2
            have f11 := hide hI.1
            replace hI := hI.2
            have f12 := hide hI.1
            replace hI := hI.2
            have f13 := hide hI.1
            replace hI := hI.2
            have f14 := hide hI.1
            replace hI := hI.2
            have f15 := hide hI.1
            replace hI := hI.2
            have f16 := hide hI.1
            replace hI := hI.2
            have f17 := hide hI.1
            replace hI := hI.2
            have f18 := hide hI.1
            replace hI := hI.2
            have f19 := hide hI
            clear hI
            have q0 := keep hG q0
            have q1 := keep hG q1
            have q2 := keep hG q2
            have r0 := keep hG r0
            have r1 := keep hG r1
            have r2 := keep hG r2
            have r3 := keep hG r3
            have r4 := keep hG r4
            have r5 := keep hG r5
            have g14 := f14.out (hD.on 14 (by kernel_rfl))
            try simp only [puts, Act.put, List.setIfInBounds_toArray, List.set_cons_zero, List.set_cons_succ]
            try go_simp
            exact hK.out _ _ _ (by simp only [puts, Act.put, List.setIfInBounds_toArray, List.set_cons_zero, List.set_cons_succ] <;> rfl) ⟨hG, (fun h => f0.out h), (fun h => f1.out h), (fun h => f2.out h), (fun h => f3.out h), (fun h => f4.out h), (fun h => f5.out h), (fun h => f6.out h), (fun h => f7.out h), (fun h => f8.out h), (fun h => f9.out h), (fun h => f10.out h), (fun h => f11.out h), (fun h => f12.out h), (fun h => f13.out h), (fun h => f14.out h), (fun _ => g14), (fun h => f16.out h), (fun h => f17.out h), (fun h => f18.out h), (fun h => f19.out h)⟩
          · intro L vs W hlen hL hD hI K hK
            obtain ⟨x0, x1, x2, x3, x4, x5, x6, x7, x8, x9, x10, x11, x12, x13, x14, x15, x16, x17, x18, x19, rfl⟩ := len20 hlen
            have hG := hI.1
            replace hI := hI.2
            have f0 := hide hI.1
            replace hI := hI.2
            have f1 := hide hI.1
            replace hI := hI.2
            have f2 := hide hI.1
            replace hI := hI.2
            have f3 := hide hI.1
            replace hI := hI.2
            have f4 := hide hI.1
            replace hI := hI.2
            have f5 := hide hI.1
            replace hI := hI.2
            have f6 := hide hI.1
            replace hI := hI.2
            have f7 := hide hI.1
            replace hI := hI.2
            have f8 := hide hI.1
            replace hI := hI.2
            have f9 := hide hI.1
            replace hI := hI.2
            have f10 := hide hI.1
            replace hI := hI.2
            have f11 := hide hI.1
            replace hI := hI.2
            have f12 := hide hI.1
            replace hI := hI.2
            have f13 := hide hI.1
            replace hI := hI.2
            have f14 := hide hI.1
            replace hI := hI.2
            have f15 := hide hI.1
            replace hI := hI.2
            have f16 := hide hI.1
            replace hI := hI.2
            have f17 := hide hI.1
            replace hI := hI.2
            have f18 := hide hI.1
            replace hI := hI.2
            have f19 := hide hI
            clear hI
            have q0 := keep hG q0
            have q1 := keep hG q1
            have q2 := keep hG q2
            have r0 := keep hG r0
            have r1 := keep hG r1
            have r2 := keep hG r2
            have r3 := keep hG r3
            have r4 := keep hG r4
            have r5 := keep hG r5
            have g15 := f15.out (hD.on 15 (by kernel_rfl))
            try simp only [puts, Act.put, List.setIfInBounds_toArray, List.set_cons_zero, List.set_cons_succ]
            obtain ⟨mv, rfl⟩ := g15
            go_simp
            exact hK.out _ _ _ (by simp only [puts, Act.put, List.setIfInBounds_toArray, List.set_cons_zero, List.set_cons_succ] <;> rfl) ⟨hG, (fun h => f0.out h), (fun h => f1.out h), (fun h => f2.out h), (fun h => f3.out h), (fun h => f4.out h), (fun h => f5.out h), (fun h => f6.out h), (fun h => f7.out h), (fun h => f8.out h), (fun h => f9.out h), (fun h => f10.out h), (fun h => f11.out h), (fun h => f12.out h), (fun h => f13.out h), (fun h => f14.out h), (fun h => f15.out h), (fun _ => rfl), (fun h => f17.out h), (fun h => f18.out h), (fun h => f19.out h)⟩
          · intro L vs W hlen hL hD hI K hK
            obtain ⟨x0, x1, x2, x3, x4, x5, x6, x7, x8, x9, x10, x11, x12, x13, x14, x15, x16, x17, x18, x19, rfl⟩ := len20 hlen
            have hG := hI.1
            replace hI := hI.2
            have f0 := hide hI.1
            replace hI := hI.2
            have f1 := hide hI.1
            replace hI := hI.2
            have f2 := hide hI.1
            replace hI := hI.2
            have f3 := hide hI.1
            replace hI := hI.2
            have f4 := hide hI.1
            replace hI := hI.2
            have f5 := hide hI.1
            replace hI := hI.2
            have f6 := hide hI.1
            replace hI := hI.2
            have f7 := hide hI.1
            replace hI := hI.2
            have f8 := hide hI.1
            replace hI := hI.2
            have f9 := hide hI.1
            replace hI := hI.2
            have f10 := hide hI.1
            replace hI := hI.2
            have f11 := hide hI.1
            replace hI := hI.2
            have f12 := hide hI.1
            replace hI := hI.2
            have f13 := hide hI.1
            replace hI := hI.2
            have f14 := hide hI.1
            replace hI := hI.2
            have f15 := hide hI.1
            replace hI := hI.2
            have f16 := hide hI.1
            replace hI := hI.2
            have f17 := hide hI.1
            replace hI := hI.2
            have f18 := hide hI.1
            replace hI := hI.2
            have f19 := hide hI
            clear hI
            have q0 := keep hG q0
            have q1 := keep hG q1
            have q2 := keep hG q2
            have r0 := keep hG r0
            have r1 := keep hG r1
            have r2 := keep hG r2
            have r3 := keep hG r3
            have r4 := keep hG r4
            have r5 := keep hG r5
            have g15 := f15.out (hD.on 15 (by kernel_rfl))
            try simp only [puts, Act.put, List.setIfInBounds_toArray, List.set_cons_zero, List.set_cons_succ]
            obtain ⟨mv, rfl⟩ := g15
            go_simp
            exact hK.out _ _ _ (by simp only [puts, Act.put, List.setIfInBounds_toArray, List.set_cons_zero, List.set_cons_succ] <;> rfl) ⟨hG, (fun h => f0.out h), (fun h => f1.out h), (fun h => f2.out h), (fun h => f3.out h), (fun h => f4.out h), (fun h => f5.out h), (fun h => f6.out h), (fun h => f7.out h), (fun h => f8.out h), (fun h => f9.out h), (fun h => f10.out h), (fun h => f11.out h), (fun h => f12.out h), (fun h => f13.out h), (fun h => f14.out h), (fun h => f15.out h), (fun h => f16.out h), (fun _ => trivial), (fun h => f18.out h), (fun h => f19.out h)⟩
          · intro L vs W hlen hL hD hI K hK
            obtain ⟨x0, x1, x2, x3, x4, x5, x6, x7, x8, x9, x10, x11, x12, x13, x14, x15, x16, x17, x18, x19, rfl⟩ := len20 hlen
            have hG := hI.1
            replace hI := hI.2
            have f0 := hide hI.1
            replace hI := hI.2
            have f1 := hide hI.1
            replace hI := hI.2
            have f2 := hide hI.1
            replace hI := hI.2
            have f3 := hide hI.1
            replace hI := hI.2
            have f4 := hide hI.1
            replace hI := hI.2
            have f5 := hide hI.1
            replace hI := hI.2
            have f6 := hide hI.1
            replace hI := hI.2
            have f7 := hide hI.1
            replace hI := hI.2
            have f8 := hide hI.1
            replace hI := hI.2
            have f9 := hide hI.1
            replace hI := hI.2
            have f10 := hide hI.1
            replace hI := hI.2
            have f11 := hide hI.1
            replace hI := hI.2
            have f12 := hide hI.1
            replace hI := hI.2
            have f13 := hide hI.1
            replace hI := hI.2
            have f14 := hide hI.1
            replace hI := hI.2
            have f15 := hide hI.1
            replace hI := hI.2
            have f16 := hide hI.1
            replace hI := hI.2
            have f17 := hide hI.1
            replace hI := hI.2
            have f18 := hide hI.1
            replace hI := hI.2
            have f19 := hide hI
            clear hI
            have q0 := keep hG q0
            have q1 := keep hG q1
            have q2 := keep hG q2
            have r0 := keep hG r0
            have r1 := keep hG r1
            have r2 := keep hG r2
            have r3 := keep hG r3
            have r4 := keep hG r4
            have r5 := keep hG r5
            obtain rfl := f16.out (hD.on 16 (by kernel_rfl))
            try simp only [puts, Act.put, List.setIfInBounds_toArray, List.set_cons_zero, List.set_cons_succ]
            try go_simp
            exact hK.out _ _ _ (by simp only [puts, Act.put, List.setIfInBounds_toArray, List.set_cons_zero, List.set_cons_succ] <;> rfl) ⟨hG, (fun h => f0.out h), (fun h => f1.out h), (fun h => f2.out h), (fun h => f3.out h), (fun h => f4.out h), (fun h => f5.out h), (fun h => f6.out h), (fun h => f7.out h), (fun h => f8.out h), (fun h => f9.out h), (fun h => f10.out h), (fun h => f11.out h), (fun h => f12.out h), (fun h => f13.out h), (fun h => f14.out h), (fun h => f15.out h), (fun h => f16.out h), (fun h => f17.out h), (fun _ => rfl), (fun h => f19.out h)⟩
          · intro L vs W hlen hL hD hI K hK
            obtain ⟨x0, x1, x2, x3, x4, x5, x6, x7, x8, x9, x10, x11, x12, x13, x14, x15, x16, x17, x18, x19, rfl⟩ := len20 hlen
            have hG := hI.1
            replace hI := hI.2
            have f0 := hide hI.1
            replace hI := hI.2
            have f1 := hide hI.1
            replace hI := hI.2
            have f2 := hide hI.1
            replace hI := hI.2
            have f3 := hide hI.1
            replace hI := hI.2
            have f4 := hide hI.1
            replace hI := hI.2
            have f5 := hide hI.1
            replace hI := hI.2
            have f6 := hide hI.1
            replace hI := hI.2
            have f7 := hide hI.1
            replace hI := hI.2
            have f8 := hide hI.1
            replace hI := hI.2
            have f9 := hide hI.1
            replace hI := hI.2
            have f10 := hide hI.1
            replace hI := hI.2
            have f11 := hide hI.1
            replace hI := hI.2
            have f12 := hide hI.1
            replace hI := hI.2
            have f13 := hide hI.1
            replace hI := hI.2
            have f14 := hide hI.1
            replace hI := hI.2
            have f15 := hide hI.1
            replace hI := hI.2
            have f16 := hide hI.1
            replace hI := hI.2
            have f17 := hide hI.1
            replace hI := hI.2
            have f18 := hide hI.1
            replace hI := hI.2
            have f19 := hide hI
            clear hI
            have q0 := keep hG q0
            have q1 := keep hG q1
            have q2 := keep hG q2
            have r0 := keep hG r0
            have r1 := keep hG r1
            have r2 := keep hG r2
            have r3 := keep hG r3
            have r4 := keep hG r4
            have r5 := keep hG r5
            have g17 := f17.out (hD.on 17 (by kernel_rfl))
            try simp only [puts, Act.put, List.setIfInBounds_toArray, List.set_cons_zero, List.set_cons_succ]
            try go_simp
            exact hK.out _ _ _ (by simp only [puts, Act.put, List.setIfInBounds_toArray, List.set_cons_zero, List.set_cons_succ] <;> rfl) ⟨hG, (fun h => f0.out h), (fun h => f1.out h), (fun h => f2.out h), (fun h => f3.out h), (fun h => f4.out h), (fun h => f5.out h), (fun h => f6.out h), (fun h => f7.out h), (fun h => f8.out h), (fun h => f9.out h), (fun h => f10.out h), (fun h => f11.out h), (fun h => f12.out h), (fun h => f13.out h), (fun h => f14.out h), (fun h => f15.out h), (fun h => f16.out h), (fun h => f17.out h), (fun h => f18.out h), (fun _ => trivial)⟩
        intro L vs W hlen hall hI
        obtain ⟨x0, x1, x2, x3, x4, x5, x6, x7, x8, x9, x10, x11, x12, x13, x14, x15, x16, x17, x18, x19, rfl⟩ := len20 hlen
        have hG := hI.1
        replace hI := hI.2
        have f0 := hide hI.1
        replace hI := hI.2
        have f1 := hide hI.1
        replace hI := hI.2
        have f2 := hide hI.1
        replace hI := hI.2
        have f3 := hide hI.1
        replace hI := hI.2
        have f4 := hide hI.1
        replace hI := hI.2
        have f5 := hide hI.1
        replace hI := hI.2
        have f6 := hide hI.1
        replace hI := hI.2
        have f7 := hide hI.1
        replace hI := hI.2
        have f8 := hide hI.1
        replace hI := hI.2
        have f9 := hide hI.1
        replace hI := hI.2
        have f10 := hide hI.1
        replace hI := hI.2
        have f11 := hide hI.1
        replace hI := hI.2
        have f12 := hide hI.1
        replace hI := hI.2
        have f13 := hide hI.1
        replace hI := hI.2
        have f14 := hide hI.1
        replace hI := hI.2
        have f15 := hide hI.1
        replace hI := hI.2
        have f16 := hide hI.1
        replace hI := hI.2
        have f17 := hide hI.1
        replace hI := hI.2
        have f18 := hide hI.1
        replace hI := hI.2
        have f19 := hide hI
        clear hI
        obtain rfl := f0.out (hall 0 (by decide))
        obtain rfl := f1.out (hall 1 (by decide))
        obtain rfl := f2.out (hall 2 (by decide))
        obtain rfl := f3.out (hall 3 (by decide))
        obtain rfl := f4.out (hall 4 (by decide))
        obtain rfl := f5.out (hall 5 (by decide))
        obtain rfl := f6.out (hall 6 (by decide))
        obtain rfl := f7.out (hall 7 (by decide))
        obtain rfl := f8.out (hall 8 (by decide))
        obtain rfl := f9.out (hall 9 (by decide))
        obtain rfl := f10.out (hall 10 (by decide))
        have g11 := f11.out (hall 11 (by decide))
        have g12 := f12.out (hall 12 (by decide))
        obtain rfl := f13.out (hall 13 (by decide))
        have g14 := f14.out (hall 14 (by decide))
        have g15 := f15.out (hall 15 (by decide))
        obtain rfl := f16.out (hall 16 (by decide))
        obtain rfl := f18.out (hall 18 (by decide))
        have hal := hide hall
        clear hall f0 f1 f2 f3 f4 f5 f6 f7 f8 f9 f10 f11 f12 f13 f14 f15 f16 f17 f18 f19
        try simp only [puts, Act.put, List.setIfInBounds_toArray, List.set_cons_zero, List.set_cons_succ]
        clear g11 g12 g14 g15
        go_wp2_with fail
        go_ret
        exact ⟨ret_bool (by rw [HF.out] ; first | rfl | (by_cases h : CF = -1 <;> simp [h])), below2 HBW.out hG⟩
end Go.Proofs.Ytppfdjjhloaopaa
