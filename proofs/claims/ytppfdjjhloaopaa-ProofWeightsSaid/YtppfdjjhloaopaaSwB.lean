/- The walk of Bent of the reference. Conditions: how the arguments lie in memory; sizes; that integers are of 64 bits. -/
import Derived.Test.YtppfdjjhloaopaaSwA
import Derived.Test.YtppfdjjhloaopaaProw
import Derived.Test.YtppfdjjhloaopaaRegM
import Derived.Deep.RegionLawGrows
import Derived.Test.YtppfdjjhloaopaaPw15
import Derived.Test.YtppfdjjhloaopaaBlkI
import Derived.Deep.DeepCutAuto
/- Walk of Bounds of package proof. Conditions: how the program and the proof lie in memory; how many rows and numbers there are. -/
namespace Go.Proofs.Ytppfdjjhloaopaa
open Go.RowKit

/-- the goal's row as package proof makes it, whatever the numbers are -/
def negW (l : List Int) (k : Nat) : List Int := (l.take k).map fun x => wrap64 (-x)
theorem negW_succ {l : List Int} {k : Nat} (h : k < l.length) : negW l (k + 1) = negW l k ++ [wrap64 (-(l.getD k 0))] := by
  unfold negW; rw [take_succ' l k 0 h, List.map_append]; rfl
theorem negW_len {l : List Int} {k : Nat} (h : k ≤ l.length) : (negW l k).length = k := by
  unfold negW; rw [List.length_map, List.length_take]; omega
def goalW (gl : List Int) (g : Int) : RowD := ⟨0, 0, 0, 0, negW gl gl.length, -(g + 1)⟩
theorem goalW_in {gl : List Int} (h : coefsB gl = true) (g : Int) : goalW gl g = goalF gl g := by
  have e : negW gl gl.length = gl.map fun x => -x := by
    unfold negW
    rw [List.take_length]
    refine List.map_congr_left fun x hx => ?_
    have := List.all_eq_true.1 h x hx
    simp only [bndB, decide_eq_true_eq] at this
    exact wrap_id (by omega) (by omega)
  unfold goalW goalF; rw [e]
def withW (p : ProgD) (g : Int) : List RowD := p.rows ++ [goalW p.gain g]
theorem withW_len (p : ProgD) (g : Int) : (withW p g).length = p.rows.length + 1 := by simp [withW]
def boundsB (p : ProgD) (l : List StepD) (g : Int) : Bool := isInB (-12000000000) g 12000000000 && decide (checkF p (p.rows ++ [goalF p.gain g]) l = -1)
theorem withW_check (p : ProgD) (l : List StepD) (g : Int) : checkF p (withW p g) l = checkF p (p.rows ++ [goalF p.gain g]) l := by
  unfold checkF
  cases h : validB p
  · simp
  · have hc := (valid_parts h).2.2.2.2.2
    rw [show withW p g = p.rows ++ [goalF p.gain g] by unfold withW; rw [goalW_in hc]]
theorem withW_ok {p : ProgD} (hV : validB p = true) (g : Int) (h1 : -100000000000 ≤ g) (h2 : g ≤ 100000000000) : RowsOk (withW p g) p.vars.toNat := by
  have hc := (valid_parts hV).2.2.2.2.2
  unfold withW; rw [goalW_in hc]; exact with_ok hV g h1 h2
/-- behind an append of one row onto rows that lie anywhere -/
theorem grown_rows {W W' : World} {rows : List RowD} {r : RowD} {Lr : List (List Value)} {v' cv : Value} (hl : Lr.length = rows.length) (h6 : ∀ x ∈ Lr, x.length = 6) (hs : ∀ i, i < rows.length → ∃ cv, Lr.getD i [] = rowCells (rows.getD i row0) cv ∧ IntsIn W.cell? cv (rows.getD i row0).coef)
    (hcv : IntsIn W.cell? cv r.coef) (hg : W.grownBy W' none) {B : Nat} (hO : W'.ownsRow B 67 6 v' (rows.length + 1) (Lr.flatten ++ rowCells r cv)) : RowsAt W' v' (rows ++ [r]) := by
  have hk : Keeps W.cell? W'.cell? := keeps_of_below (below_of_grown hg)
  have hO8 : OwnR W' B 67 6 v' (Lr ++ [rowCells r cv]) := by
    refine ⟨?_, fun x hx => ?_⟩
    · rw [List.length_append, List.flatten_append, hl]
      simpa using hO
    · rcases List.mem_append.1 hx with h1 | h1
      · exact h6 x h1
      · simp at h1; rw [h1]; rfl
  refine hO8.rows (by simp [hl]) fun i hi => ?_
  rcases Nat.lt_or_ge i rows.length with h1 | h1
  · obtain ⟨cv, e, hc⟩ := hs i h1
    refine ⟨cv, ?_, ?_⟩
    · rw [getD_app_left _ _ _ _ (by omega), getD_app_left _ _ _ _ h1]; exact e
    · rw [getD_app_left _ _ _ _ h1]; exact hc.keeps hk
  · have hi' : i = rows.length := by simp at hi; omega
    subst hi'
    refine ⟨cv, ?_, ?_⟩
    · rw [getD_app_right _ _ _ _ (by omega), getD_app_right _ _ _ _ (Nat.le_refl _), hl]; simp
    · rw [getD_app_right _ _ _ _ (Nat.le_refl _)]
      simp only [Nat.sub_self, List.getD_cons_zero]
      exact hcv.keeps hk
theorem step_grows3 {W : World} {ops : Array Oper} {o : Oper} {T : Array Value} {D : List Deferred} {K : Act → World → Prop} {Q : Exit → Act → World → Prop} {E : Prop}
    (hg : o.guard = none) (s x : Operand) (t : TypeId) (hop : o.op = Op.call { callee := Callee.builtin Builtin.append, args := #[s, x], argTypes := #[t, t] })
    (e : TypeId) (i : TypeInfo) (z : Value) (size bytes : Nat) (h1 : Try.prog.underlying t = some (.slice e)) (h2 : Try.prog.info? e = some i) (h3 : i.zero = some z) (h4 : i.size = size) (h5 : i.bytes = bytes) (h6 : z.cells.size = size) (h7 : 0 < size)
    (ao : Option Addr) (n cap : Nat) (olds : List Value) (hs : Act.eval ⟨T, D⟩ s = .slice ao n cap) (hnone : ao = none → n = 0 ∧ cap = 0) (hlo : olds.length = n * size) (holds : ∀ b, ao = some b → ∀ j u, olds[j]? = some u → W.cell? (b.add j) = some u)
    (ad : Addr) (m c : Nat) (news : List Value) (hx : Act.eval ⟨T, D⟩ x = .slice (some ad) m c) (hn : news.length = m * size) (hc : ∀ j u, news[j]? = some u → W.cell? (ad.add j) = some u) (h1c : ∀ u ∈ news, u.oneCell' = true)
    (hfull : cap < n + m) (b1 : n + m ≤ maxLen) (b2 : (n + m) * bytes ≤ 140737488355328)
    (hK : ∀ v' w', w'.ownsRow W.heap.size e size v' (n + m) (olds ++ news) → W.grownBy w' none → K (Act.put ⟨T, D⟩ o.dst v') w') :
    if Region.wanted o (yielded ops T) = true then Oper.wp Try.prog o ⟨T, D⟩ W K Q else E :=
  step_append_grows (a := ⟨T, D⟩) hg s x t hop e i z size bytes h1 h2 h3 h4 h5 h6 h7 ao n cap olds hs hnone hlo holds ad m c news hx hn hc h1c hfull b1 b2 hK
set_option maxRecDepth 100000 in
set_option maxHeartbeats 2000000 in
theorem bounds_any (p : ProgD) (rv gv : Value) (l : List StepD) (sv : Value) (g : Int) (w : World) (hr : RowsAt w rv p.rows) (hg : IntsAt w gv p.gain) (hs : StepsIn w.cell? sv l) (hrl : p.rows.length ≤ 1000) (hgl : p.gain.length ≤ 1000) :
    Calls Try.prog 25 #[progV p rv gv, sv, .int .i64 g] w (Ret (.bool (boundsB p l g)) w) := by
  have HF : Hid (boundsB p l g = (isInB (-12000000000) g 12000000000 && decide (checkF p (withW p g) l = -1))) := hide (by unfold boundsB; rw [withW_check])
  generalize hi : isInB (-12000000000) g 12000000000 = b1 at HF
  have HI := hide hi
  have H1 := hide (fun (W : World) => isInP_eq g (-12000000000) 12000000000 W)
  rw [hi] at H1
  clear hi
  obtain ⟨ra, rc, rfl, hrc, hrm, -⟩ := id hr
  obtain ⟨ga, gc, rfl, -, hgm, hgk⟩ := id hg
  cases b1
  · go_enter Try.func25, Try.ntmps25
    go_wp2_with fail
    have hb := bal w (.cells #[.int .i64 p.vars, .slice ra p.rows.length rc, .slice ga p.gain.length gc] 27)
    refine (H1.out _).mono ?_
    rintro e w1 ⟨rfl, hw⟩
    rw [hw]
    clear hw w1
    go_wp2_with fail
    go_ret
    exact ⟨ret_bool (by rw [HF.out]; rfl), hb⟩
  · have hgb : -12000000000 ≤ g ∧ g ≤ 12000000000 := by have := HI.out; simpa [isInB] using this
    have e1 : IntKind.i64.wrap (g + 1) = g + 1 := IntWalk.i64_in _ ⟨by omega, by omega⟩
    have e2 : IntKind.i64.wrap (-(g + 1)) = -(g + 1) := IntWalk.i64_in _ ⟨by omega, by omega⟩
    have HGK := hide hgk
    have HGB := hide hgb
    clear hgk hgb
    go_enter Try.func25, Try.ntmps25
    go_wp2_with fail
    generalize hW1 : World.alloc w _ = W1
    have b1 : Below w.heap.size w W1 := by rw [← hW1]; exact bal w _
    have z1 : W1.heap.size = w.heap.size + 1 := by rw [← hW1]; simp
    have bP : Blk W1 w.heap.size [.int .i64 p.vars, .slice ra p.rows.length rc, .slice ga p.gain.length gc] 27 := by rw [← hW1]; exact Blk.new w _ _
    have HZ := hide z1
    clear hW1 z1
    refine (H1.out _).mono ?_
    rintro e w1 ⟨rfl, hw⟩
    rw [hw]
    clear hw w1
    have p0 := bP.cell 0 rfl
    have p1 := bP.cell 1 rfl
    have p2 := bP.cell 2 rfl
    go_upto_region 4 with (fail)
    generalize hX1 : World.alloc W1 _ = X1
    have zX1 : X1.heap.size = W1.heap.size + 1 := by rw [← hX1]; simp
    have bX1 : Below W1.heap.size W1 X1 := by rw [← hX1]; exact bal W1 _
    have bR : Blk X1 (W1.heap.size) [.int .i64 0, .int .i64 0, .int .i64 0, .int .i64 0, .slice none 0 0, .int .i64 (-(g + 1))] 67 := by rw [← hX1]; exact Blk.newA W1 _ (by first | rfl | simp)
    have Xb := bX1
    have Xz := zX1
    clear hX1 zX1 bX1
    have p2 := keep Xb p2
    have bXw := below2 b1 Xb
    have XZ := hide Xz
    have hz1 : w.heap.size < W1.heap.size := by rw [HZ.out]; omega
    clear Xz p0 p1
    go_wp2_with fail
    go_loopw [22] (fun i wr => ∃ (k : Nat) (v : Value), k ≤ p.gain.length ∧ i = .int .i64 k ∧ OwnI wr X1.heap.size v (negW p.gain k) ∧ Blk wr W1.heap.size [.int .i64 0, .int .i64 0, .int .i64 0, .int .i64 0, v, .int .i64 (-(g + 1))] 67 ∧ Below W1.heap.size X1 wr ∧ X1.heap.size ≤ wr.heap.size) (fun i _ => p.gain.length - (intOf i).toNat)
    case atStart => exact ⟨0, _, by omega, rfl, OwnI.nil _ _, bR, Below.refl _ _, Nat.le_refl _⟩
    case round =>
      obtain ⟨k, v, hk, rfl, hown, hX, hbr, hz3⟩ := hrel
      have hbw : Below w.heap.size w wr := bXw.trans (hbr.mono (by omega))
      have hRlt : W1.heap.size < X1.heap.size := by rw [XZ.out]; omega
      by_cases hlt : k < p.gain.length
      · obtain ⟨b, o, rfl, hck⟩ := HGK.out k hlt
        have HN := hide (negW_succ (l := p.gain) hlt)
        have hnl : (negW p.gain k).length = k := negW_len (by omega)
        have hnl2 : (negW p.gain k).length < 1000000 := by omega
        generalize p.gain.getD k 0 = x at hck HN
        have ck := keep hbw hck
        have x4 := hX.cell 4 rfl
        have f4 := hX.frozen 4
        clear hnl hck
        go_wp2_with (at_builtin; refine app_int rfl _ _ rfl X1.heap.size _ _ rfl hown (wrap64 (-x)) rfl hnl2 hz3 ?_; intro v' w4 hown4 hb4 hz4; obtain ⟨g4, c4, rfl⟩ := hown4.succ; have hX4 := hX.below hb4 hRlt; have y4 := hX4.cell 4 rfl; have g4 := hX4.frozen 4)
        go_roundw
        case rel => exact ⟨k + 1, _, by omega, by go_num, by rw [HN.out]; exact hown4.set hRlt _ _, hX4.set 4 _, (hbr.trans (hb4.mono (by omega))).setCell (Nat.le_refl _) _, by simp [World.setCell]; omega⟩
        case measure => simp [intOf]; omega
      · obtain rfl : k = p.gain.length := by omega
        obtain ⟨av, cv, rfl⟩ := hown.form
        have hv := hown.ints
        have bPr : Blk wr w.heap.size [.int .i64 p.vars, .slice ra p.rows.length rc, .slice ga p.gain.length gc] 27 := (bP.later Xb).below hbr hz1
        have hrw := hr.below hbw
        have hgw := hg.below hbw
        have hsw := hs.keeps (keeps_of_below hbw)
        obtain ⟨Lr, hLr1, hLr2, hLr3, hLr4, hLr5⟩ := rows_list (RowsAt.to hrw)
        obtain ⟨i0, hi, hj0, hj1, hj2⟩ := info_parts infoRow
        have HJ := hide (And.intro hi (And.intro hj0 (And.intro hj1 hj2)))
        have L1 := hide hLr1
        have L2 := hide hLr2
        have L3 := hide hLr3
        have L4 := hide hLr4
        have L5 := hide hLr5
        have HRW := hide hrw
        have HGW := hide hgw
        have HSW := hide hsw
        have HVI : Hid (IntsIn wr.cell? (.slice av (negW p.gain p.gain.length).length cv) (goalW p.gain g).coef) := hide hv
        have HBW := hide hbw
        have HOK := hide (fun (hV : validB p = true) => withW_ok hV g (by have := HGB.out.1; omega) (by have := HGB.out.2; omega))
        obtain ⟨CF, hCF⟩ : ∃ CF, checkF p (withW p g) l = CF := ⟨_, rfl⟩
        rw [hCF] at HF
        have HCF := hide hCF
        have HWL : Hid ((withW p g).length ≤ 1001) := hide (by rw [withW_len]; omega)
        obtain ⟨m, hm⟩ : ∃ m, (negW p.gain p.gain.length).length = m := ⟨_, rfl⟩
        rw [hm] at hX HVI hown
        have q0 := bPr.cell 0 rfl
        have q1 := bPr.cell 1 rfl
        have q2 := bPr.cell 2 rfl
        have r0 := hX.cell 0 rfl
        have r1 := hX.cell 1 rfl
        have r2 := hX.cell 2 rfl
        have r3 := hX.cell 3 rfl
        have r4 := hX.cell 4 rfl
        have r5 := hX.cell 5 rfl
        have hrn : (p.rows.length : Int) ≤ 9223372036854775807 := by omega
        have hrc' : p.rows.length ≤ rc := hrc
        clear hCF hi hj0 hj1 hj2 hLr1 hLr2 hLr3 hLr4 hLr5 hrw hgw hsw hv hbw hr hg hs hX bPr hown hm p2 hbr hz3 bXw bP b1 Xb bR hRlt hlt hk e1 e2
        go_wp2_with fail
        refine wp_region_inv [some 35, some 36, some 37, some 38, some 39, some 40, some 41, some 42, some 43, some 44, some 45, some 46, some 47, some 48, some 49, some 34, some 50, some 51, some 10, some 11] (fun L vs W => match vs with | [x0, x1, x2, x3, x4, x5, x6, x7, x8, x9, x10, x11, x12, x13, x14, x15, x16, x17, x18, x19] => (Below wr.heap.size wr W) ∧ (L 0 = true → x0 = .agg #[.int .i64 p.vars, .slice ra p.rows.length rc, .slice ga p.gain.length gc]) ∧ (L 1 = true → x1 = .pointer (some ⟨w.heap.size, 1, none⟩)) ∧ (L 2 = true → x2 = .slice ra p.rows.length rc) ∧ (L 3 = true → x3 = .pointer (some ⟨w.heap.size, 1, none⟩)) ∧ (L 4 = true → x4 = .slice ra p.rows.length rc) ∧ (L 5 = true → x5 = .int .i64 p.rows.length) ∧ (L 6 = true → x6 = .pointer (some ⟨w.heap.size, 1, none⟩)) ∧ (L 7 = true → x7 = .slice ra p.rows.length rc) ∧ (L 8 = true → x8 = .int .i64 p.rows.length) ∧ (L 9 = true → x9 = .slice ra p.rows.length p.rows.length) ∧ (L 10 = true → x10 = rowV (goalW p.gain g) (.slice av m cv)) ∧ (L 11 = true → ∃ b8 : Nat, x11 = .slice (some ⟨b8, 0, none⟩) 1 1 ∧ Blk W b8 (rowCells (goalW p.gain g) (.slice av m cv)) 67) ∧ (L 12 = true → RowsAt W x12 (withW p g)) ∧ (L 13 = true → x13 = sv) ∧ (L 14 = true → ∃ mv, x14 = .tuple #[.int .i64 CF, .map mv]) ∧ (L 15 = true → ∃ mv, x15 = .tuple #[.int .i64 CF, .map mv]) ∧ (L 16 = true → x16 = .int .i64 CF) ∧ (L 17 = true → True) ∧ (L 18 = true → x18 = .int .i64 CF) ∧ (L 19 = true → True) | _ => False) [_, _, _, _, _, _, _, _, _, _, _, _, _, _, _, _, _, _, _, _] (by kernel_rfl) (by kernel_rfl) rfl (by simp only [puts, Act.put, List.setIfInBounds_toArray, List.set_cons_zero, List.set_cons_succ] <;> rfl) ?_ ?_ ?_
        · exact ⟨(Below.refl _ _).drew, (fun h => by cases h), (fun h => by cases h), (fun h => by cases h), (fun h => by cases h), (fun h => by cases h), (fun h => by cases h), (fun h => by cases h), (fun h => by cases h), (fun h => by cases h), (fun h => by cases h), (fun h => by cases h), (fun h => by cases h), (fun h => by cases h), (fun h => by cases h), (fun h => by cases h), (fun h => by cases h), (fun h => by cases h), (fun h => by cases h), (fun h => by cases h), (fun h => by cases h)⟩
        · refine ⟨?_, ?_, ?_, ?_, ?_, ?_, ?_, ?_, ?_, ?_, ?_, ?_, ?_, ?_, ?_, ?_, ?_, ?_, ?_, ?_, trivial⟩
          · intro L vs W hlen hL hD hI K hK
            obtain ⟨x0, x1, x2, x3, x4, x5, x6, x7, x8, x9, x10, x11, x12, x13, x14, x15, x16, x17, x18, x19, rfl⟩ := len20 hlen
            have hG := hI.1
            replace hI := hI.2
            have f0 := hide hI.1
            replace hI := hI.2
            have f1 := hide hI.1
            replace hI := hI.2
            have f2 := hide hI.1
            replace hI := hI.2
            have f3 := hide hI.1
            replace hI := hI.2
            have f4 := hide hI.1
            replace hI := hI.2
            have f5 := hide hI.1
            replace hI := hI.2
            have f6 := hide hI.1
            replace hI := hI.2
            have f7 := hide hI.1
            replace hI := hI.2
            have f8 := hide hI.1
            replace hI := hI.2
            have f9 := hide hI.1
            replace hI := hI.2
            have f10 := hide hI.1
            replace hI := hI.2
            have f11 := hide hI.1
            replace hI := hI.2
            have f12 := hide hI.1
            replace hI := hI.2
            have f13 := hide hI.1
            replace hI := hI.2
            have f14 := hide hI.1
            replace hI := hI.2
            have f15 := hide hI.1
            replace hI := hI.2
            have f16 := hide hI.1
            replace hI := hI.2
            have f17 := hide hI.1
            replace hI := hI.2
            have f18 := hide hI.1
            replace hI := hI.2
            have f19 := hide hI
            clear hI
            have q0 := keep hG q0
            have q1 := keep hG q1
            have q2 := keep hG q2
            have r0 := keep hG r0
            have r1 := keep hG r1
            have r2 := keep hG r2
            have r3 := keep hG r3
            have r4 := keep hG r4
            have r5 := keep hG r5
            try simp only [puts, Act.put, List.setIfInBounds_toArray, List.set_cons_zero, List.set_cons_succ]
            try go_simp
            exact hK.out _ _ _ (by simp only [puts, Act.put, List.setIfInBounds_toArray, List.set_cons_zero, List.set_cons_succ] <;> rfl) ⟨hG, (fun _ => rfl), (fun h => f1.out h), (fun h => f2.out h), (fun h => f3.out h), (fun h => f4.out h), (fun h => f5.out h), (fun h => f6.out h), (fun h => f7.out h), (fun h => f8.out h), (fun h => f9.out h), (fun h => f10.out h), (fun h => f11.out h), (fun h => f12.out h), (fun h => f13.out h), (fun h => f14.out h), (fun h => f15.out h), (fun h => f16.out h), (fun h => f17.out h), (fun h => f18.out h), (fun h => f19.out h)⟩
          · intro L vs W hlen hL hD hI K hK
            obtain ⟨x0, x1, x2, x3, x4, x5, x6, x7, x8, x9, x10, x11, x12, x13, x14, x15, x16, x17, x18, x19, rfl⟩ := len20 hlen
            have hG := hI.1
            replace hI := hI.2
            have f0 := hide hI.1
            replace hI := hI.2
            have f1 := hide hI.1
            replace hI := hI.2
            have f2 := hide hI.1
            replace hI := hI.2
            have f3 := hide hI.1
            replace hI := hI.2
            have f4 := hide hI.1
            replace hI := hI.2
            have f5 := hide hI.1
            replace hI := hI.2
            have f6 := hide hI.1
            replace hI := hI.2
            have f7 := hide hI.1
            replace hI := hI.2
            have f8 := hide hI.1
            replace hI := hI.2
            have f9 := hide hI.1
            replace hI := hI.2
            have f10 := hide hI.1
            replace hI := hI.2
            have f11 := hide hI.1
            replace hI := hI.2
            have f12 := hide hI.1
            replace hI := hI.2
            have f13 := hide hI.1
            replace hI := hI.2
            have f14 := hide hI.1
            replace hI := hI.2
            have f15 := hide hI.1
            replace hI := hI.2
            have f16 := hide hI.1
            replace hI := hI.2
            have f17 := hide hI.1
            replace hI := hI.2
            have f18 := hide hI.1
            replace hI := hI.2
            have f19 := hide hI
            clear hI
            have q0 := keep hG q0
            have q1 := keep hG q1
            have q2 := keep hG q2
            have r0 := keep hG r0
            have r1 := keep hG r1
            have r2 := keep hG r2
            have r3 := keep hG r3
            have r4 := keep hG r4
            have r5 := keep hG r5
            try simp only [puts, Act.put, List.setIfInBounds_toArray, List.set_cons_zero, List.set_cons_succ]
            try go_simp
            exact hK.out _ _ _ (by simp only [puts, Act.put, List.setIfInBounds_toArray, List.set_cons_zero, List.set_cons_succ] <;> rfl) ⟨hG, (fun h => f0.out h), (fun _ => rfl), (fun h => f2.out h), (fun h => f3.out h), (fun h => f4.out h), (fun h => f5.out h), (fun h => f6.out h), (fun h => f7.out h), (fun h => f8.out h), (fun h => f9.out h), (fun h => f10.out h), (fun h => f11.out h), (fun h => f12.out h), (fun h => f13.out h), (fun h => f14.out h), (fun h => f15.out h), (fun h => f16.out h), (fun h => f17.out h), (fun h => f18.out h), (fun h => f19.out h)⟩
          · intro L vs W hlen hL hD hI K hK
            obtain ⟨x0, x1, x2, x3, x4, x5, x6, x7, x8, x9, x10, x11, x12, x13, x14, x15, x16, x17, x18, x19, rfl⟩ := len20 hlen
            have hG := hI.1
            replace hI := hI.2
            have f0 := hide hI.1
            replace hI := hI.2
            have f1 := hide hI.1
            replace hI := hI.2
            have f2 := hide hI.1
            replace hI := hI.2
            have f3 := hide hI.1
            replace hI := hI.2
            have f4 := hide hI.1
            replace hI := hI.2
            have f5 := hide hI.1
            replace hI := hI.2
            have f6 := hide hI.1
            replace hI := hI.2
            have f7 := hide hI.1
            replace hI := hI.2
            have f8 := hide hI.1
            replace hI := hI.2
            have f9 := hide hI.1
            replace hI := hI.2
            have f10 := hide hI.1
            replace hI := hI.2
            have f11 := hide hI.1
            replace hI := hI.2
            have f12 := hide hI.1
            replace hI := hI.2
            have f13 := hide hI.1
            replace hI := hI.2
            have f14 := hide hI.1
            replace hI := hI.2
            have f15 := hide hI.1
            replace hI := hI.2
            have f16 := hide hI.1
            replace hI := hI.2
            have f17 := hide hI.1
            replace hI := hI.2
            have f18 := hide hI.1
            replace hI := hI.2
            have f19 := hide hI
            clear hI
            have q0 := keep hG q0
            have q1 := keep hG q1
            have q2 := keep hG q2
            have r0 := keep hG r0
            have r1 := keep hG r1
            have r2 := keep hG r2
            have r3 := keep hG r3
            have r4 := keep hG r4
            have r5 := keep hG r5
            obtain rfl := f1.out (hD.on 1 (by kernel_rfl))
            try simp only [puts, Act.put, List.setIfInBounds_toArray, List.set_cons_zero, List.set_cons_succ]
            try go_simp
            exact hK.out _ _ _ (by simp only [puts, Act.put, List.setIfInBounds_toArray, List.set_cons_zero, List.set_cons_succ] <;> rfl) ⟨hG, (fun h => f0.out h), (fun h => f1.out h), (fun _ => rfl), (fun h => f3.out h), (fun h => f4.out h), (fun h => f5.out h), (fun h => f6.out h), (fun h => f7.out h), (fun h => f8.out h), (fun h => f9.out h), (fun h => f10.out h), (fun h => f11.out h), (fun h => f12.out h), (fun h => f13.out h), (fun h => f14.out h), (fun h => f15.out h), (fun h => f16.out h), (fun h => f17.out h), (fun h => f18.out h), (fun h => f19.out h)⟩
          · intro L vs W hlen hL hD hI K hK
            obtain ⟨x0, x1, x2, x3, x4, x5, x6, x7, x8, x9, x10, x11, x12, x13, x14, x15, x16, x17, x18, x19, rfl⟩ := len20 hlen
            have hG := hI.1
            replace hI := hI.2
            have f0 := hide hI.1
            replace hI := hI.2
            have f1 := hide hI.1
            replace hI := hI.2
            have f2 := hide hI.1
            replace hI := hI.2
            have f3 := hide hI.1
            replace hI := hI.2
            have f4 := hide hI.1
            replace hI := hI.2
            have f5 := hide hI.1
            replace hI := hI.2
            have f6 := hide hI.1
            replace hI := hI.2
            have f7 := hide hI.1
            replace hI := hI.2
            have f8 := hide hI.1
            replace hI := hI.2
            have f9 := hide hI.1
            replace hI := hI.2
            have f10 := hide hI.1
            replace hI := hI.2
            have f11 := hide hI.1
            replace hI := hI.2
            have f12 := hide hI.1
            replace hI := hI.2
            have f13 := hide hI.1
            replace hI := hI.2
            have f14 := hide hI.1
            replace hI := hI.2
            have f15 := hide hI.1
            replace hI := hI.2
            have f16 := hide hI.1
            replace hI := hI.2
            have f17 := hide hI.1
            replace hI := hI.2
            have f18 := hide hI.1
            replace hI := hI.2
            have f19 := hide hI
            clear hI
            have q0 := keep hG q0
            have q1 := keep hG q1
            have q2 := keep hG q2
            have r0 := keep hG r0
            have r1 := keep hG r1
            have r2 := keep hG r2
            have r3 := keep hG r3
            have r4 := keep hG r4
            have r5 := keep hG r5
            try simp only [puts, Act.put, List.setIfInBounds_toArray, List.set_cons_zero, List.set_cons_succ]
            try go_simp
            exact hK.out _ _ _ (by simp only [puts, Act.put, List.setIfInBounds_toArray, List.set_cons_zero, List.set_cons_succ] <;> rfl) ⟨hG, (fun h => f0.out h), (fun h => f1.out h), (fun h => f2.out h), (fun _ => rfl), (fun h => f4.out h), (fun h => f5.out h), (fun h => f6.out h), (fun h => f7.out h), (fun h => f8.out h), (fun h => f9.out h), (fun h => f10.out h), (fun h => f11.out h), (fun h => f12.out h), (fun h => f13.out h), (fun h => f14.out h), (fun h => f15.out h), (fun h => f16.out h), (fun h => f17.out h), (fun h => f18.out h), (fun h => f19.out h)⟩
          · intro L vs W hlen hL hD hI K hK
            obtain ⟨x0, x1, x2, x3, x4, x5, x6, x7, x8, x9, x10, x11, x12, x13, x14, x15, x16, x17, x18, x19, rfl⟩ := len20 hlen
            have hG := hI.1
            replace hI := hI.2
            have f0 := hide hI.1
            replace hI := hI.2
            have f1 := hide hI.1
            replace hI := hI.2
            have f2 := hide hI.1
            replace hI := hI.2
            have f3 := hide hI.1
            replace hI := hI.2
            have f4 := hide hI.1
            replace hI := hI.2
            have f5 := hide hI.1
            replace hI := hI.2
            have f6 := hide hI.1
            replace hI := hI.2
            have f7 := hide hI.1
            replace hI := hI.2
            have f8 := hide hI.1
            replace hI := hI.2
            have f9 := hide hI.1
            replace hI := hI.2
            have f10 := hide hI.1
            replace hI := hI.2
            have f11 := hide hI.1
            replace hI := hI.2
            have f12 := hide hI.1
            replace hI := hI.2
            have f13 := hide hI.1
            replace hI := hI.2
            have f14 := hide hI.1
            replace hI := hI.2
            have f15 := hide hI.1
            replace hI := hI.2
            have f16 := hide hI.1
            replace hI := hI.2
            have f17 := hide hI.1
            replace hI := hI.2
            have f18 := hide hI.1
            replace hI := hI.2
            have f19 := hide hI
            clear hI
            have q0 := keep hG q0
            have q1 := keep hG q1
            have q2 := keep hG q2
            have r0 := keep hG r0
            have r1 := keep hG r1
            have r2 := keep hG r2
            have r3 := keep hG r3
            have r4 := keep hG r4
            have r5 := keep hG r5
            obtain rfl := f3.out (hD.on 3 (by kernel_rfl))
            try simp only [puts, Act.put, List.setIfInBounds_toArray, List.set_cons_zero, List.set_cons_succ]
            try go_simp
            exact hK.out _ _ _ (by simp only [puts, Act.put, List.setIfInBounds_toArray, List.set_cons_zero, List.set_cons_succ] <;> rfl) ⟨hG, (fun h => f0.out h), (fun h => f1.out h), (fun h => f2.out h), (fun h => f3.out h), (fun _ => rfl), (fun h => f5.out h), (fun h => f6.out h), (fun h => f7.out h), (fun h => f8.out h), (fun h => f9.out h), (fun h => f10.out h), (fun h => f11.out h), (fun h => f12.out h), (fun h => f13.out h), (fun h => f14.out h), (fun h => f15.out h), (fun h => f16.out h), (fun h => f17.out h), (fun h => f18.out h), (fun h => f19.out h)⟩
          · intro L vs W hlen hL hD hI K hK
            obtain ⟨x0, x1, x2, x3, x4, x5, x6, x7, x8, x9, x10, x11, x12, x13, x14, x15, x16, x17, x18, x19, rfl⟩ := len20 hlen
            have hG := hI.1
            replace hI := hI.2
            have f0 := hide hI.1
            replace hI := hI.2
            have f1 := hide hI.1
            replace hI := hI.2
            have f2 := hide hI.1
            replace hI := hI.2
            have f3 := hide hI.1
            replace hI := hI.2
            have f4 := hide hI.1
            replace hI := hI.2
            have f5 := hide hI.1
            replace hI := hI.2
            have f6 := hide hI.1
            replace hI := hI.2
            have f7 := hide hI.1
            replace hI := hI.2
            have f8 := hide hI.1
            replace hI := hI.2
            have f9 := hide hI.1
            replace hI := hI.2
            have f10 := hide hI.1
            replace hI := hI.2
            have f11 := hide hI.1
            replace hI := hI.2
            have f12 := hide hI.1
            replace hI := hI.2
            have f13 := hide hI.1
            replace hI := hI.2
            have f14 := hide hI.1
            replace hI := hI.2
            have f15 := hide hI.1
            replace hI := hI.2
            have f16 := hide hI.1
            replace hI := hI.2
            have f17 := hide hI.1
            replace hI := hI.2
            have f18 := hide hI.1
            replace hI := hI.2
            have f19 := hide hI
            clear hI
            have q0 := keep hG q0
            have q1 := keep hG q1
            have q2 := keep hG q2
            have r0 := keep hG r0
            have r1 := keep hG r1
            have r2 := keep hG r2
            have r3 := keep hG r3
            have r4 := keep hG r4
            have r5 := keep hG r5
            obtain rfl := f4.out (hD.on 4 (by kernel_rfl))
            try simp only [puts, Act.put, List.setIfInBounds_toArray, List.set_cons_zero, List.set_cons_succ]
            try go_simp
            exact hK.out _ _ _ (by simp only [puts, Act.put, List.setIfInBounds_toArray, List.set_cons_zero, List.set_cons_succ] <;> rfl) ⟨hG, (fun h => f0.out h), (fun h => f1.out h), (fun h => f2.out h), (fun h => f3.out h), (fun h => f4.out h), (fun _ => rfl), (fun h => f6.out h), (fun h => f7.out h), (fun h => f8.out h), (fun h => f9.out h), (fun h => f10.out h), (fun h => f11.out h), (fun h => f12.out h), (fun h => f13.out h), (fun h => f14.out h), (fun h => f15.out h), (fun h => f16.out h), (fun h => f17.out h), (fun h => f18.out h), (fun h => f19.out h)⟩
          · intro L vs W hlen hL hD hI K hK
            obtain ⟨x0, x1, x2, x3, x4, x5, x6, x7, x8, x9, x10, x11, x12, x13, x14, x15, x16, x17, x18, x19, rfl⟩ := len20 hlen
            have hG := hI.1
            replace hI := hI.2
            have f0 := hide hI.1
            replace hI := hI.2
            have f1 := hide hI.1
            replace hI := hI.2
            have f2 := hide hI.1
            replace hI := hI.2
            have f3 := hide hI.1
            replace hI := hI.2
            have f4 := hide hI.1
            replace hI := hI.2
            have f5 := hide hI.1
            replace hI := hI.2
            have f6 := hide hI.1
            replace hI := hI.2
            have f7 := hide hI.1
            replace hI := hI.2
            have f8 := hide hI.1
            replace hI := hI.2
            have f9 := hide hI.1
            replace hI := hI.2
            have f10 := hide hI.1
            replace hI := hI.2
            have f11 := hide hI.1
            replace hI := hI.2
            have f12 := hide hI.1
            replace hI := hI.2
            have f13 := hide hI.1
            replace hI := hI.2
            have f14 := hide hI.1
            replace hI := hI.2
            have f15 := hide hI.1
            replace hI := hI.2
            have f16 := hide hI.1
            replace hI := hI.2
            have f17 := hide hI.1
            replace hI := hI.2
            have f18 := hide hI.1
            replace hI := hI.2
            have f19 := hide hI
            clear hI
            have q0 := keep hG q0
            have q1 := keep hG q1
            have q2 := keep hG q2
            have r0 := keep hG r0
            have r1 := keep hG r1
            have r2 := keep hG r2
            have r3 := keep hG r3
            have r4 := keep hG r4
            have r5 := keep hG r5
            try simp only [puts, Act.put, List.setIfInBounds_toArray, List.set_cons_zero, List.set_cons_succ]
            try go_simp
            exact hK.out _ _ _ (by simp only [puts, Act.put, List.setIfInBounds_toArray, List.set_cons_zero, List.set_cons_succ] <;> rfl) ⟨hG, (fun h => f0.out h), (fun h => f1.out h), (fun h => f2.out h), (fun h => f3.out h), (fun h => f4.out h), (fun h => f5.out h), (fun _ => rfl), (fun h => f7.out h), (fun h => f8.out h), (fun h => f9.out h), (fun h => f10.out h), (fun h => f11.out h), (fun h => f12.out h), (fun h => f13.out h), (fun h => f14.out h), (fun h => f15.out h), (fun h => f16.out h), (fun h => f17.out h), (fun h => f18.out h), (fun h => f19.out h)⟩
          · intro L vs W hlen hL hD hI K hK
            obtain ⟨x0, x1, x2, x3, x4, x5, x6, x7, x8, x9, x10, x11, x12, x13, x14, x15, x16, x17, x18, x19, rfl⟩ := len20 hlen
            have hG := hI.1
            replace hI := hI.2
            have f0 := hide hI.1
            replace hI := hI.2
            have f1 := hide hI.1
            replace hI := hI.2
            have f2 := hide hI.1
            replace hI := hI.2
            have f3 := hide hI.1
            replace hI := hI.2
            have f4 := hide hI.1
            replace hI := hI.2
            have f5 := hide hI.1
            replace hI := hI.2
            have f6 := hide hI.1
            replace hI := hI.2
            have f7 := hide hI.1
            replace hI := hI.2
            have f8 := hide hI.1
            replace hI := hI.2
            have f9 := hide hI.1
            replace hI := hI.2
            have f10 := hide hI.1
            replace hI := hI.2
            have f11 := hide hI.1
            replace hI := hI.2
            have f12 := hide hI.1
            replace hI := hI.2
            have f13 := hide hI.1
            replace hI := hI.2
            have f14 := hide hI.1
            replace hI := hI.2
            have f15 := hide hI.1
            replace hI := hI.2
            have f16 := hide hI.1
            replace hI := hI.2
            have f17 := hide hI.1
            replace hI := hI.2
            have f18 := hide hI.1
            replace hI := hI.2
            have f19 := hide hI
            clear hI
            have q0 := keep hG q0
            have q1 := keep hG q1
            have q2 := keep hG q2
            have r0 := keep hG r0
            have r1 := keep hG r1
            have r2 := keep hG r2
            have r3 := keep hG r3
            have r4 := keep hG r4
            have r5 := keep hG r5
            obtain rfl := f6.out (hD.on 6 (by kernel_rfl))
            try simp only [puts, Act.put, List.setIfInBounds_toArray, List.set_cons_zero, List.set_cons_succ]
            try go_simp
            exact hK.out _ _ _ (by simp only [puts, Act.put, List.setIfInBounds_toArray, List.set_cons_zero, List.set_cons_succ] <;> rfl) ⟨hG, (fun h => f0.out h), (fun h => f1.out h), (fun h => f2.out h), (fun h => f3.out h), (fun h => f4.out h), (fun h => f5.out h), (fun h => f6.out h), (fun _ => rfl), (fun h => f8.out h), (fun h => f9.out h), (fun h => f10.out h), (fun h => f11.out h), (fun h => f12.out h), (fun h => f13.out h), (fun h => f14.out h), (fun h => f15.out h), (fun h => f16.out h), (fun h => f17.out h), (fun h => f18.out h), (fun h => f19.out h)⟩
          · intro L vs W hlen hL hD hI K hK
            obtain ⟨x0, x1, x2, x3, x4, x5, x6, x7, x8, x9, x10, x11, x12, x13, x14, x15, x16, x17, x18, x19, rfl⟩ := len20 hlen
            have hG := hI.1
            replace hI := hI.2
            have f0 := hide hI.1
            replace hI := hI.2
            have f1 := hide hI.1
            replace hI := hI.2
            have f2 := hide hI.1
            replace hI := hI.2
            have f3 := hide hI.1
            replace hI := hI.2
            have f4 := hide hI.1
            replace hI := hI.2
            have f5 := hide hI.1
            replace hI := hI.2
            have f6 := hide hI.1
            replace hI := hI.2
            have f7 := hide hI.1
            replace hI := hI.2
            have f8 := hide hI.1
            replace hI := hI.2
            have f9 := hide hI.1
            replace hI := hI.2
            have f10 := hide hI.1
            replace hI := hI.2
            have f11 := hide hI.1
            replace hI := hI.2
            have f12 := hide hI.1
            replace hI := hI.2
            have f13 := hide hI.1
            replace hI := hI.2
            have f14 := hide hI.1
            replace hI := hI.2
            have f15 := hide hI.1
            replace hI := hI.2
            have f16 := hide hI.1
            replace hI := hI.2
            have f17 := hide hI.1
            replace hI := hI.2
            have f18 := hide hI.1
            replace hI := hI.2
            have f19 := hide hI
            clear hI
            have q0 := keep hG q0
            have q1 := keep hG q1
            have q2 := keep hG q2
            have r0 := keep hG r0
            have r1 := keep hG r1
            have r2 := keep hG r2
            have r3 := keep hG r3
            have r4 := keep hG r4
            have r5 := keep hG r5
            obtain rfl := f7.out (hD.on 7 (by kernel_rfl))
            try simp only [puts, Act.put, List.setIfInBounds_toArray, List.set_cons_zero, List.set_cons_succ]
            try go_simp
            exact hK.out _ _ _ (by simp only [puts, Act.put, List.setIfInBounds_toArray, List.set_cons_zero, List.set_cons_succ] <;> rfl) ⟨hG, (fun h => f0.out h), (fun h => f1.out h), (fun h => f2.out h), (fun h => f3.out h), (fun h => f4.out h), (fun h => f5.out h), (fun h => f6.out h), (fun h => f7.out h), (fun _ => rfl), (fun h => f9.out h), (fun h => f10.out h), (fun h => f11.out h), (fun h => f12.out h), (fun h => f13.out h), (fun h => f14.out h), (fun h => f15.out h), (fun h => f16.out h), (fun h => f17.out h), (fun h => f18.out h), (fun h => f19.out h)⟩
          · intro L vs W hlen hL hD hI K hK
            obtain ⟨x0, x1, x2, x3, x4, x5, x6, x7, x8, x9, x10, x11, x12, x13, x14, x15, x16, x17, x18, x19, rfl⟩ := len20 hlen
            have hG := hI.1
            replace hI := hI.2
            have f0 := hide hI.1
            replace hI := hI.2
            have f1 := hide hI.1
            replace hI := hI.2
            have f2 := hide hI.1
            replace hI := hI.2
            have f3 := hide hI.1
            replace hI := hI.2
            have f4 := hide hI.1
            replace hI := hI.2
            have f5 := hide hI.1
            replace hI := hI.2
            have f6 := hide hI.1
            replace hI := hI.2
            have f7 := hide hI.1
            replace hI := hI.2
            have f8 := hide hI.1
            replace hI := hI.2
            have f9 := hide hI.1
            replace hI := hI.2
            have f10 := hide hI.1
            replace hI := hI.2
            have f11 := hide hI.1
            replace hI := hI.2
            have f12 := hide hI.1
            replace hI := hI.2
            have f13 := hide hI.1
            replace hI := hI.2
            have f14 := hide hI.1
            replace hI := hI.2
            have f15 := hide hI.1
            replace hI := hI.2
            have f16 := hide hI.1
            replace hI := hI.2
            have f17 := hide hI.1
            replace hI := hI.2
            have f18 := hide hI.1
            replace hI := hI.2
            have f19 := hide hI
            clear hI
            have q0 := keep hG q0
            have q1 := keep hG q1
            have q2 := keep hG q2
            have r0 := keep hG r0
            have r1 := keep hG r1
            have r2 := keep hG r2
            have r3 := keep hG r3
            have r4 := keep hG r4
            have r5 := keep hG r5
            obtain rfl := f2.out (hD.on 2 (by kernel_rfl))
            obtain rfl := f5.out (hD.on 5 (by kernel_rfl))
            obtain rfl := f8.out (hD.on 8 (by kernel_rfl))
            try simp only [puts, Act.put, List.setIfInBounds_toArray, List.set_cons_zero, List.set_cons_succ]
            try go_simp
            exact hK.out _ _ _ (by simp only [puts, Act.put, List.setIfInBounds_toArray, List.set_cons_zero, List.set_cons_succ] <;> rfl) ⟨hG, (fun h => f0.out h), (fun h => f1.out h), (fun h => f2.out h), (fun h => f3.out h), (fun h => f4.out h), (fun h => f5.out h), (fun h => f6.out h), (fun h => f7.out h), (fun h => f8.out h), (fun _ => rfl), (fun h => f10.out h), (fun h => f11.out h), (fun h => f12.out h), (fun h => f13.out h), (fun h => f14.out h), (fun h => f15.out h), (fun h => f16.out h), (fun h => f17.out h), (fun h => f18.out h), (fun h => f19.out h)⟩
          · intro L vs W hlen hL hD hI K hK
            obtain ⟨x0, x1, x2, x3, x4, x5, x6, x7, x8, x9, x10, x11, x12, x13, x14, x15, x16, x17, x18, x19, rfl⟩ := len20 hlen
            have hG := hI.1
            replace hI := hI.2
            have f0 := hide hI.1
            replace hI := hI.2
            have f1 := hide hI.1
            replace hI := hI.2
            have f2 := hide hI.1
            replace hI := hI.2
            have f3 := hide hI.1
            replace hI := hI.2
            have f4 := hide hI.1
            replace hI := hI.2
            have f5 := hide hI.1
            replace hI := hI.2
            have f6 := hide hI.1
            replace hI := hI.2
            have f7 := hide hI.1
            replace hI := hI.2
            have f8 := hide hI.1
            replace hI := hI.2
            have f9 := hide hI.1
            replace hI := hI.2
            have f10 := hide hI.1
            replace hI := hI.2
            have f11 := hide hI.1
            replace hI := hI.2
            have f12 := hide hI.1
            replace hI := hI.2
            have f13 := hide hI.1
            replace hI := hI.2
            have f14 := hide hI.1
            replace hI := hI.2
            have f15 := hide hI.1
            replace hI := hI.2
            have f16 := hide hI.1
            replace hI := hI.2
            have f17 := hide hI.1
            replace hI := hI.2
            have f18 := hide hI.1
            replace hI := hI.2
            have f19 := hide hI
            clear hI
            have q0 := keep hG q0
            have q1 := keep hG q1
            have q2 := keep hG q2
            have r0 := keep hG r0
            have r1 := keep hG r1
            have r2 := keep hG r2
            have r3 := keep hG r3
            have r4 := keep hG r4
            have r5 := keep hG r5
            try simp only [puts, Act.put, List.setIfInBounds_toArray, List.set_cons_zero, List.set_cons_succ]
            try go_simp
            exact hK.out _ _ _ (by simp only [puts, Act.put, List.setIfInBounds_toArray, List.set_cons_zero, List.set_cons_succ] <;> rfl) ⟨hG, (fun h => f0.out h), (fun h => f1.out h), (fun h => f2.out h), (fun h => f3.out h), (fun h => f4.out h), (fun h => f5.out h), (fun h => f6.out h), (fun h => f7.out h), (fun h => f8.out h), (fun h => f9.out h), (fun _ => rfl), (fun h => f11.out h), (fun h => f12.out h), (fun h => f13.out h), (fun h => f14.out h), (fun h => f15.out h), (fun h => f16.out h), (fun h => f17.out h), (fun h => f18.out h), (fun h => f19.out h)⟩
          · intro L vs W hlen hL hD hI K hK
            obtain ⟨x0, x1, x2, x3, x4, x5, x6, x7, x8, x9, x10, x11, x12, x13, x14, x15, x16, x17, x18, x19, rfl⟩ := len20 hlen
            have hG := hI.1
            replace hI := hI.2
            have f0 := hide hI.1
            replace hI := hI.2
            have f1 := hide hI.1
            replace hI := hI.2
            have f2 := hide hI.1
            replace hI := hI.2
            have f3 := hide hI.1
            replace hI := hI.2
            have f4 := hide hI.1
            replace hI := hI.2
            have f5 := hide hI.1
            replace hI := hI.2
            have f6 := hide hI.1
            replace hI := hI.2
            have f7 := hide hI.1
            replace hI := hI.2
            have f8 := hide hI.1
            replace hI := hI.2
            have f9 := hide hI.1
            replace hI := hI.2
            have f10 := hide hI.1
            replace hI := hI.2
            have f11 := hide hI.1
            replace hI := hI.2
            have f12 := hide hI.1
            replace hI := hI.2
            have f13 := hide hI.1
            replace hI := hI.2
            have f14 := hide hI.1
            replace hI := hI.2
            have f15 := hide hI.1
            replace hI := hI.2
            have f16 := hide hI.1
            replace hI := hI.2
            have f17 := hide hI.1
            replace hI := hI.2
            have f18 := hide hI.1
            replace hI := hI.2
            have f19 := hide hI
            clear hI
            have q0 := keep hG q0
            have q1 := keep hG q1
            have q2 := keep hG q2
            have r0 := keep hG r0
            have r1 := keep hG r1
            have r2 := keep hG r2
            have r3 := keep hG r3
            have r4 := keep hG r4
            have r5 := keep hG r5
            obtain rfl := f10.out (hD.on 10 (by kernel_rfl))
            try simp only [puts, Act.put, List.setIfInBounds_toArray, List.set_cons_zero, List.set_cons_succ]
            try go_simp
            generalize hW' : World.alloc W _ = W'
            have hb : Below W.heap.size W W' := by rw [← hW']; exact bal W _
            exact hK.out _ _ _ (by simp only [puts, Act.put, List.setIfInBounds_toArray, List.set_cons_zero, List.set_cons_succ] <;> rfl) ⟨below2 hG hb, (fun h => f0.out h), (fun h => f1.out h), (fun h => f2.out h), (fun h => f3.out h), (fun h => f4.out h), (fun h => f5.out h), (fun h => f6.out h), (fun h => f7.out h), (fun h => f8.out h), (fun h => f9.out h), (fun h => f10.out h), (fun _ => ⟨W.heap.size, rfl, by rw [← hW']; exact Blk.newA W _ rfl⟩), (fun h => (fun h => RowsAt.below hb h) (f12.out h)), (fun h => f13.out h), (fun h => (fun h => h) (f14.out h)), (fun h => (fun h => h) (f15.out h)), (fun h => f16.out h), (fun h => f17.out h), (fun h => f18.out h), (fun h => f19.out h)⟩
          · intro L vs W hlen hL hD hI K hK
            obtain ⟨x0, x1, x2, x3, x4, x5, x6, x7, x8, x9, x10, x11, x12, x13, x14, x15, x16, x17, x18, x19, rfl⟩ := len20 hlen
            have hG := hI.1
            replace hI := hI.2
            have f0 := hide hI.1
            replace hI := hI.2
            have f1 := hide hI.1
            replace hI := hI.2
            have f2 := hide hI.1
            replace hI := hI.2
            have f3 := hide hI.1
            replace hI := hI.2
            have f4 := hide hI.1
            replace hI := hI.2
            have f5 := hide hI.1
            replace hI := hI.2
            have f6 := hide hI.1
            replace hI := hI.2
            have f7 := hide hI.1
            replace hI := hI.2
            have f8 := hide hI.1
            replace hI := hI.2
            have f9 := hide hI.1
            replace hI := hI.2
            have f10 := hide hI.1
            replace hI := hI.2
            have f11 := hide hI.1
            replace hI := hI.2
            have f12 := hide hI.1
            replace hI := hI.2
            have f13 := hide hI.1
            replace hI := hI.2
            have f14 := hide hI.1
            replace hI := hI.2
            have f15 := hide hI.1
            replace hI := hI.2
            have f16 := hide hI.1
            replace hI := hI.2
            have f17 := hide hI.1
            replace hI := hI.2
            have f18 := hide hI.1
            replace hI := hI.2
            have f19 := hide hI
            clear hI
            have q0 := keep hG q0
            have q1 := keep hG q1
            have q2 := keep hG q2
            have r0 := keep hG r0
            have r1 := keep hG r1
            have r2 := keep hG r2
            have r3 := keep hG r3
            have r4 := keep hG r4
            have r5 := keep hG r5
            obtain rfl := f9.out (hD.on 9 (by kernel_rfl))
            have g11 := f11.out (hD.on 11 (by kernel_rfl))
            try simp only [puts, Act.put, List.setIfInBounds_toArray, List.set_cons_zero, List.set_cons_succ]
            obtain ⟨b8, rfl, hB8⟩ := g11
            refine step_grows3 rfl _ _ 24 rfl 67 i0 _ 6 64 Try.underlying24 HJ.out.1 HJ.out.2.1 HJ.out.2.2.1 HJ.out.2.2.2 rfl (by decide) ra p.rows.length p.rows.length Lr.flatten rfl (fun e => ⟨by rw [L5.out e]; rfl, by rw [L5.out e]; rfl⟩) (by rw [flat_len L2.out, L1.out]) (fun b e j u hj => keep hG (L4.out b e j u hj)) ⟨b8, 0, none⟩ 1 1 (rowCells (goalW p.gain g) (.slice av m cv)) rfl rfl (fun j u hj => by have := hB8.cell j hj ; cases j <;> simpa [Addr.add] using this) cells6 (by omega) (by unfold maxLen ; omega) (by omega) ?_
            intro v' W' hO hg
            have hb := below_of_grown hg
            exact hK.out _ _ _ (by simp only [puts, Act.put, List.setIfInBounds_toArray, List.set_cons_zero, List.set_cons_succ] <;> rfl) ⟨below2 hG hb, (fun h => f0.out h), (fun h => f1.out h), (fun h => f2.out h), (fun h => f3.out h), (fun h => f4.out h), (fun h => f5.out h), (fun h => f6.out h), (fun h => f7.out h), (fun h => f8.out h), (fun h => f9.out h), (fun h => f10.out h), (fun h => (fun h => let ⟨b8, e, hB⟩ := h; ⟨b8, e, hB.later hb⟩) (f11.out h)), (fun _ => grown_rows L1.out L2.out (fun i hi => let ⟨cv, e, hc⟩ := L3.out i hi; ⟨cv, e, hc.keeps (keeps_of_below hG)⟩) (IntsIn.keeps (keeps_of_below hG) HVI.out) hg hO), (fun h => f13.out h), (fun h => (fun h => h) (f14.out h)), (fun h => (fun h => h) (f15.out h)), (fun h => f16.out h), (fun h => f17.out h), (fun h => f18.out h), (fun h => f19.out h)⟩
          · intro L vs W hlen hL hD hI K hK
            obtain ⟨x0, x1, x2, x3, x4, x5, x6, x7, x8, x9, x10, x11, x12, x13, x14, x15, x16, x17, x18, x19, rfl⟩ := len20 hlen
            have hG := hI.1
            replace hI := hI.2
            have f0 := hide hI.1
            replace hI := hI.2
            have f1 := hide hI.1
            replace hI := hI.2
            have f2 := hide hI.1
            replace hI := hI.2
            have f3 := hide hI.1
            replace hI := hI.2
            have f4 := hide hI.1
            replace hI := hI.2
            have f5 := hide hI.1
            replace hI := hI.2
            have f6 := hide hI.1
            replace hI := hI.2
            have f7 := hide hI.1
            replace hI := hI.2
            have f8 := hide hI.1
            replace hI := hI.2
            have f9 := hide hI.1
            replace hI := hI.2
            have f10 := hide hI.1
            replace hI := hI.2
            have f11 := hide hI.1
            replace hI := hI.2
            have f12 := hide hI.1
            replace hI := hI.2
            have f13 := hide hI.1
            replace hI := hI.2
            have f14 := hide hI.1
            replace hI := hI.2
            have f15 := hide hI.1
            replace hI := hI.2
            have f16 := hide hI.1
            replace hI := hI.2
            have f17 := hide hI.1
            replace hI := hI.2
            have f18 := hide hI.1
            replace hI := hI.2
            have f19 := hide hI
            clear hI
            have q0 := keep hG q0
            have q1 := keep hG q1
            have q2 := keep hG q2
            have r0 := keep hG r0
            have r1 := keep hG r1
            have r2 := keep hG r2
            have r3 := keep hG r3
            have r4 := keep hG r4
            have r5 := keep hG r5
            try simp only [puts, Act.put, List.setIfInBounds_toArray, List.set_cons_zero, List.set_cons_succ]
            try go_simp
            exact hK.out _ _ _ (by simp only [puts, Act.put, List.setIfInBounds_toArray, List.set_cons_zero, List.set_cons_succ] <;> rfl) ⟨hG, (fun h => f0.out h), (fun h => f1.out h), (fun h => f2.out h), (fun h => f3.out h), (fun h => f4.out h), (fun h => f5.out h), (fun h => f6.out h), (fun h => f7.out h), (fun h => f8.out h), (fun h => f9.out h), (fun h => f10.out h), (fun h => f11.out h), (fun h => f12.out h), (fun _ => rfl), (fun h => f14.out h), (fun h => f15.out h), (fun h => f16.out h), (fun h => f17.out h), (fun h => f18.out h), (fun h => f19.out h)⟩
          · intro L vs W hlen hL hD hI K hK
            obtain ⟨x0, x1, x2, x3, x4, x5, x6, x7, x8, x9, x10, x11, x12, x13, x14, x15, x16, x17, x18, x19, rfl⟩ := len20 hlen
            have hG := hI.1
            replace hI := hI.2
            have f0 := hide hI.1
            replace hI := hI.2
            have f1 := hide hI.1
            replace hI := hI.2
            have f2 := hide hI.1
            replace hI := hI.2
            have f3 := hide hI.1
            replace hI := hI.2
            have f4 := hide hI.1
            replace hI := hI.2
            have f5 := hide hI.1
            replace hI := hI.2
            have f6 := hide hI.1
            replace hI := hI.2
            have f7 := hide hI.1
            replace hI := hI.2
            have f8 := hide hI.1
            replace hI := hI.2
            have f9 := hide hI.1
            replace hI := hI.2
            have f10 := hide hI.1
            replace hI := hI.2
            have f11 := hide hI.1
            replace hI := hI.2
            have f12 := hide hI.1
            replace hI := hI.2
            have f13 := hide hI.1
            replace hI := hI.2
            have f14 := hide hI.1
            replace hI := hI.2
            have f15 := hide hI.1
            replace hI := hI.2
            have f16 := hide hI.1
            replace hI := hI.2
            have f17 := hide hI.1
            replace hI := hI.2
            have f18 := hide hI.1
            replace hI := hI.2
            have f19 := hide hI
            clear hI
            have q0 := keep hG q0
            have q1 := keep hG q1
            have q2 := keep hG q2
            have r0 := keep hG r0
            have r1 := keep hG r1
            have r2 := keep hG r2
            have r3 := keep hG r3
            have r4 := keep hG r4
            have r5 := keep hG r5
            obtain rfl := f0.out (hD.on 0 (by kernel_rfl))
            have g12 := f12.out (hD.on 12 (by kernel_rfl))
            obtain rfl := f13.out (hD.on 13 (by kernel_rfl))
            try simp only [puts, Act.put, List.setIfInBounds_toArray, List.set_cons_zero, List.set_cons_succ]
            try go_simp
            refine (check_any p _ _ (withW p g) _ l _ W (HRW.out.below hG) (HGW.out.below hG) g12 (HSW.out.keeps (keeps_of_below hG)) (fun hV => by rw [withW_len] ; have := (valid_parts hV).2.2.1 ; omega) HOK.out).mono ?_
            rw [HCF.out]
            rintro e W' ⟨hbb, mv, rfl, -, -⟩
            try go_simp
            have hb := hbb
            exact hK.out _ _ _ (by simp only [puts, Act.put, List.setIfInBounds_toArray, List.set_cons_zero, List.set_cons_succ] <;> rfl) ⟨below2 hG hb, (fun h => f0.out h), (fun h => f1.out h), (fun h => f2.out h), (fun h => f3.out h), (fun h => f4.out h), (fun h => f5.out h), (fun h => f6.out h), (fun h => f7.out h), (fun h => f8.out h), (fun h => f9.out h), (fun h => f10.out h), (fun h => (fun h => let ⟨b8, e, hB⟩ := h; ⟨b8, e, hB.later hb⟩) (f11.out h)), (fun h => (fun h => RowsAt.below hb h) (f12.out h)), (fun h => f13.out h), (fun _ => ⟨mv, rfl⟩), (fun h => (fun h => h) (f15.out h)), (fun h => f16.out h), (fun h => f17.out h), (fun h => f18.out h), (fun h => f19.out h)⟩
          · intro L vs W hlen hL hD hI K hK
            obtain ⟨x0, x1, x2, x3, x4, x5, x6, x7, x8, x9, x10, x11, x12, x13, x14, x15, x16, x17, x18, x19, rfl⟩ := len20 hlen
            have hG := hI.1
            replace hI := hI.2
            have f0 := hide hI.1
            replace hI := hI.2
            have f1 := hide hI.1
            replace hI := hI.2
            have f2 := hide hI.1
            replace hI := hI.2
            have f3 := hide hI.1
            replace hI := hI.2
            have f4 := hide hI.1
            replace hI := hI.2
            have f5 := hide hI.1
            replace hI := hI.2
            have f6 := hide hI.1
            replace hI := hI.2
            have f7 := hide hI.1
            replace hI := hI.2
            have f8 := hide hI.1
            replace hI := hI.2
            have f9 := hide hI.1
            replace hI := hI.2
            have f10 := hide hI.1
            replace hI := hI.2
            have f11 := hide hI.1
            replace hI := hI.2
            have f12 := hide hI.1
            replace hI := hI.2
            have f13 := hide hI.1
            replace hI := hI.2
            have f14 := hide hI.1
            replace hI := hI.2
            have f15 := hide hI.1
            replace hI := hI.2
            have f16 := hide hI.1
            replace hI := hI.2
            have f17 := hide hI.1
            replace hI := hI.2
            have f18 := hide hI.1
            replace hI := hI.2
            have f19 := hide hI
            clear hI
            have q0 := keep hG q0
            have q1 := keep hG q1
            have q2 := keep hG q2
            have r0 := keep hG r0
            have r1 := keep hG r1
            have r2 := keep hG r2
            have r3 := keep hG r3
            have r4 := keep hG r4
            have r5 := keep hG r5
            have g14 := f14.out (hD.on 14 (by kernel_rfl))
            try simp only [puts, Act.put, List.setIfInBounds_toArray, List.set_cons_zero, List.set_cons_succ]
            try go_simp
            exact hK.out _ _ _ (by simp only [puts, Act.put, List.setIfInBounds_toArray, List.set_cons_zero, List.set_cons_succ] <;> rfl) ⟨hG, (fun h => f0.out h), (fun h => f1.out h), (fun h => f2.out h), (fun h => f3.out h), (fun h => f4.out h), (fun h => f5.out h), (fun h => f6.out h), (fun h => f7.out h), (fun h => f8.out h), (fun h => f9.out h), (fun h => f10.out h), (fun h => f11.out h), (fun h => f12.out h), (fun h => f13.out h), (fun h => f14.out h), (fun _ => g14), (fun h => f16.out h), (fun h => f17.out h), (fun h => f18.out h), (fun h => f19.out h)⟩
          · intro L vs W hlen hL hD hI K hK
            obtain ⟨x0, x1, x2, x3, x4, x5, x6, x7, x8, x9, x10, x11, x12, x13, x14, x15, x16, x17, x18, x19, rfl⟩ := len20 hlen
            have hG := hI.1
            replace hI := hI.2
            have f0 := hide hI.1
            replace hI := hI.2
            have f1 := hide hI.1
            replace hI := hI.2
            have f2 := hide hI.1
            replace hI := hI.2
            have f3 := hide hI.1
            replace hI := hI.2
            have f4 := hide hI.1
            replace hI := hI.2
            have f5 := hide hI.1
            replace hI := hI.2
            have f6 := hide hI.1
            replace hI := hI.2
            have f7 := hide hI.1
            replace hI := hI.2
            have f8 := hide hI.1
            replace hI := hI.2
            have f9 := hide hI.1
            replace hI := hI.2
            have f10 := hide hI.1
            replace hI := hI.2
            have f11 := hide hI.1
            replace hI := hI.2
            have f12 := hide hI.1
            replace hI := hI.2
            have f13 := hide hI.1
            replace hI := hI.2
            have f14 := hide hI.1
            replace hI := hI.2
            have f15 := hide hI.1
            replace hI := hI.2
            have f16 := hide hI.1
            replace hI := hI.2
            have f17 := hide hI.1
            replace hI := hI.2
            have f18 := hide hI.1
            replace hI := hI.2
            have f19 := hide hI
            clear hI
            have q0 := keep hG q0
            have q1 := keep hG q1
            have q2 := keep hG q2
            have r0 := keep hG r0
            have r1 := keep hG r1
            have r2 := keep hG r2
            have r3 := keep hG r3
            have r4 := keep hG r4
            have r5 := keep hG r5
            have g15 := f15.out (hD.on 15 (by kernel_rfl))
            try simp only [puts, Act.put, List.setIfInBounds_toArray, List.set_cons_zero, List.set_cons_succ]
            obtain ⟨mv, rfl⟩ := g15
            go_simp
            exact hK.out _ _ _ (by simp only [puts, Act.put, List.setIfInBounds_toArray, List.set_cons_zero, List.set_cons_succ] <;> rfl) ⟨hG, (fun h => f0.out h), (fun h => f1.out h), (fun h => f2.out h), (fun h => f3.out h), (fun h => f4.out h), (fun h => f5.out h), (fun h => f6.out h), (fun h => f7.out h), (fun h => f8.out h), (fun h => f9.out h), (fun h => f10.out h), (fun h => f11.out h), (fun h => f12.out h), (fun h => f13.out h), (fun h => f14.out h), (fun h => f15.out h), (fun _ => rfl), (fun h => f17.out h), (fun h => f18.out h), (fun h => f19.out h)⟩
          · intro L vs W hlen hL hD hI K hK
            obtain ⟨x0, x1, x2, x3, x4, x5, x6, x7, x8, x9, x10, x11, x12, x13, x14, x15, x16, x17, x18, x19, rfl⟩ := len20 hlen
            have hG := hI.1
            replace hI := hI.2
            have f0 := hide hI.1
            replace hI := hI.2
            have f1 := hide hI.1
            replace hI := hI.2
            have f2 := hide hI.1
            replace hI := hI.2
            have f3 := hide hI.1
            replace hI := hI.2
            have f4 := hide hI.1
            replace hI := hI.2
            have f5 := hide hI.1
            replace hI := hI.2
            have f6 := hide hI.1
            replace hI := hI.2
            have f7 := hide hI.1
            replace hI := hI.2
            have f8 := hide hI.1
            replace hI := hI.2
            have f9 := hide hI.1
            replace hI := hI.2
            have f10 := hide hI.1
            replace hI := hI.2
            have f11 := hide hI.1
            replace hI := hI.2
            have f12 := hide hI.1
            replace hI := hI.2
            have f13 := hide hI.1
            replace hI := hI.2
            have f14 := hide hI.1
            replace hI := hI.2
            have f15 := hide hI.1
            replace hI := hI.2
            have f16 := hide hI.1
            replace hI := hI.2
            have f17 := hide hI.1
            replace hI := hI.2
            have f18 := hide hI.1
            replace hI := hI.2
            have f19 := hide hI
            clear hI
            have q0 := keep hG q0
            have q1 := keep hG q1
            have q2 := keep hG q2
            have r0 := keep hG r0
            have r1 := keep hG r1
            have r2 := keep hG r2
            have r3 := keep hG r3
            have r4 := keep hG r4
            have r5 := keep hG r5
            have g15 := f15.out (hD.on 15 (by kernel_rfl))
            try simp only [puts, Act.put, List.setIfInBounds_toArray, List.set_cons_zero, List.set_cons_succ]
            obtain ⟨mv, rfl⟩ := g15
            go_simp
            exact hK.out _ _ _ (by simp only [puts, Act.put, List.setIfInBounds_toArray, List.set_cons_zero, List.set_cons_succ] <;> rfl) ⟨hG, (fun h => f0.out h), (fun h => f1.out h), (fun h => f2.out h), (fun h => f3.out h), (fun h => f4.out h), (fun h => f5.out h), (fun h => f6.out h), (fun h => f7.out h), (fun h => f8.out h), (fun h => f9.out h), (fun h => f10.out h), (fun h => f11.out h), (fun h => f12.out h), (fun h => f13.out h), (fun h => f14.out h), (fun h => f15.out h), (fun h => f16.out h), (fun _ => trivial), (fun h => f18.out h), (fun h => f19.out h)⟩
          · intro L vs W hlen hL hD hI K hK
            obtain ⟨x0, x1, x2, x3, x4, x5, x6, x7, x8, x9, x10, x11, x12, x13, x14, x15, x16, x17, x18, x19, rfl⟩ := len20 hlen
            have hG := hI.1
            replace hI := hI.2
            have f0 := hide hI.1
            replace hI := hI.2
            have f1 := hide hI.1
            replace hI := hI.2
            have f2 := hide hI.1
            replace hI := hI.2
            have f3 := hide hI.1
            replace hI := hI.2
            have f4 := hide hI.1
            replace hI := hI.2
            have f5 := hide hI.1
            replace hI := hI.2
            have f6 := hide hI.1
            replace hI := hI.2
            have f7 := hide hI.1
            replace hI := hI.2
            have f8 := hide hI.1
            replace hI := hI.2
            have f9 := hide hI.1
            replace hI := hI.2
            have f10 := hide hI.1
            replace hI := hI.2
            have f11 := hide hI.1
            replace hI := hI.2
            have f12 := hide hI.1
            replace hI := hI.2
            have f13 := hide hI.1
            replace hI := hI.2
            have f14 := hide hI.1
            replace hI := hI.2
            have f15 := hide hI.1
            replace hI := hI.2
            have f16 := hide hI.1
            replace hI := hI.2
            have f17 := hide hI.1
            replace hI := hI.2
            have f18 := hide hI.1
            replace hI := hI.2
            have f19 := hide hI
            clear hI
            have q0 := keep hG q0
            have q1 := keep hG q1
            have q2 := keep hG q2
            have r0 := keep hG r0
            have r1 := keep hG r1
            have r2 := keep hG r2
            have r3 := keep hG r3
            have r4 := keep hG r4
            have r5 := keep hG r5
            obtain rfl := f16.out (hD.on 16 (by kernel_rfl))
            try simp only [puts, Act.put, List.setIfInBounds_toArray, List.set_cons_zero, List.set_cons_succ]
            try go_simp
            exact hK.out _ _ _ (by simp only [puts, Act.put, List.setIfInBounds_toArray, List.set_cons_zero, List.set_cons_succ] <;> rfl) ⟨hG, (fun h => f0.out h), (fun h => f1.out h), (fun h => f2.out h), (fun h => f3.out h), (fun h => f4.out h), (fun h => f5.out h), (fun h => f6.out h), (fun h => f7.out h), (fun h => f8.out h), (fun h => f9.out h), (fun h => f10.out h), (fun h => f11.out h), (fun h => f12.out h), (fun h => f13.out h), (fun h => f14.out h), (fun h => f15.out h), (fun h => f16.out h), (fun h => f17.out h), (fun _ => rfl), (fun h => f19.out h)⟩
          · intro L vs W hlen hL hD hI K hK
            obtain ⟨x0, x1, x2, x3, x4, x5, x6, x7, x8, x9, x10, x11, x12, x13, x14, x15, x16, x17, x18, x19, rfl⟩ := len20 hlen
            have hG := hI.1
            replace hI := hI.2
            have f0 := hide hI.1
            replace hI := hI.2
            have f1 := hide hI.1
            replace hI := hI.2
            have f2 := hide hI.1
            replace hI := hI.2
            have f3 := hide hI.1
            replace hI := hI.2
            have f4 := hide hI.1
            replace hI := hI.2
            have f5 := hide hI.1
            replace hI := hI.2
            have f6 := hide hI.1
            replace hI := hI.2
            have f7 := hide hI.1
            replace hI := hI.2
            have f8 := hide hI.1
            replace hI := hI.2
            have f9 := hide hI.1
            replace hI := hI.2
            have f10 := hide hI.1
            replace hI := hI.2
            have f11 := hide hI.1
            replace hI := hI.2
            have f12 := hide hI.1
            replace hI := hI.2
            have f13 := hide hI.1
            replace hI := hI.2
            have f14 := hide hI.1
            replace hI := hI.2
            have f15 := hide hI.1
            replace hI := hI.2
            have f16 := hide hI.1
            replace hI := hI.2
            have f17 := hide hI.1
            replace hI := hI.2
            have f18 := hide hI.1
            replace hI := hI.2
            have f19 := hide hI
            clear hI
            have q0 := keep hG q0
            have q1 := keep hG q1
            have q2 := keep hG q2
            have r0 := keep hG r0
            have r1 := keep hG r1
            have r2 := keep hG r2
            have r3 := keep hG r3
            have r4 := keep hG r4
            have r5 := keep hG r5
            have g17 := f17.out (hD.on 17 (by kernel_rfl))
            try simp only [puts, Act.put, List.setIfInBounds_toArray, List.set_cons_zero, List.set_cons_succ]
            try go_simp
            exact hK.out _ _ _ (by simp only [puts, Act.put, List.setIfInBounds_toArray, List.set_cons_zero, List.set_cons_succ] <;> rfl) ⟨hG, (fun h => f0.out h), (fun h => f1.out h), (fun h => f2.out h), (fun h => f3.out h), (fun h => f4.out h), (fun h => f5.out h), (fun h => f6.out h), (fun h => f7.out h), (fun h => f8.out h), (fun h => f9.out h), (fun h => f10.out h), (fun h => f11.out h), (fun h => f12.out h), (fun h => f13.out h), (fun h => f14.out h), (fun h => f15.out h), (fun h => f16.out h), (fun h => f17.out h), (fun h => f18.out h), (fun _ => trivial)⟩
        intro L vs W hlen hall hI
        obtain ⟨x0, x1, x2, x3, x4, x5, x6, x7, x8, x9, x10, x11, x12, x13, x14, x15, x16, x17, x18, x19, rfl⟩ := len20 hlen
        have hG := hI.1
        replace hI := hI.2
        have f0 := hide hI.1
        replace hI := hI.2
        have f1 := hide hI.1
        replace hI := hI.2
        have f2 := hide hI.1
        replace hI := hI.2
        have f3 := hide hI.1
        replace hI := hI.2
        have f4 := hide hI.1
        replace hI := hI.2
        have f5 := hide hI.1
        replace hI := hI.2
        have f6 := hide hI.1
        replace hI := hI.2
        have f7 := hide hI.1
        replace hI := hI.2
        have f8 := hide hI.1
        replace hI := hI.2
        have f9 := hide hI.1
        replace hI := hI.2
        have f10 := hide hI.1
        replace hI := hI.2
        have f11 := hide hI.1
        replace hI := hI.2
        have f12 := hide hI.1
        replace hI := hI.2
        have f13 := hide hI.1
        replace hI := hI.2
        have f14 := hide hI.1
        replace hI := hI.2
        have f15 := hide hI.1
        replace hI := hI.2
        have f16 := hide hI.1
        replace hI := hI.2
        have f17 := hide hI.1
        replace hI := hI.2
        have f18 := hide hI.1
        replace hI := hI.2
        have f19 := hide hI
        clear hI
        obtain rfl := f0.out (hall 0 (by decide))
        obtain rfl := f1.out (hall 1 (by decide))
        obtain rfl := f2.out (hall 2 (by decide))
        obtain rfl := f3.out (hall 3 (by decide))
        obtain rfl := f4.out (hall 4 (by decide))
        obtain rfl := f5.out (hall 5 (by decide))
        obtain rfl := f6.out (hall 6 (by decide))
        obtain rfl := f7.out (hall 7 (by decide))
        obtain rfl := f8.out (hall 8 (by decide))
        obtain rfl := f9.out (hall 9 (by decide))
        obtain rfl := f10.out (hall 10 (by decide))
        have g11 := f11.out (hall 11 (by decide))
        have g12 := f12.out (hall 12 (by decide))
        obtain rfl := f13.out (hall 13 (by decide))
        have g14 := f14.out (hall 14 (by decide))
        have g15 := f15.out (hall 15 (by decide))
        obtain rfl := f16.out (hall 16 (by decide))
        obtain rfl := f18.out (hall 18 (by decide))
        have hal := hide hall
        clear hall f0 f1 f2 f3 f4 f5 f6 f7 f8 f9 f10 f11 f12 f13 f14 f15 f16 f17 f18 f19
        try simp only [puts, Act.put, List.setIfInBounds_toArray, List.set_cons_zero, List.set_cons_succ]
        clear g11 g12 g14 g15
        go_wp2_with fail
        go_ret
        exact ⟨ret_bool (by rw [HF.out] ; first | rfl | (by_cases h : CF = -1 <;> simp [h])), below2 HBW.out hG⟩
end Go.Proofs.Ytppfdjjhloaopaa
/- The law's examples, reckoned; leaf and pick of the law. Conditions: that integers are of 64 bits. -/
namespace Go.Proofs.Ytppfdjjhloaopaa
open Go.RowKit Go.Maps

def saP : ProgD := ⟨2, [⟨0, 0, 0, 0, [2, 2], 3⟩, ⟨0, 0, 0, 0, [-1, -1], -2⟩], [3, 4]⟩
def saQ : ProgD := ⟨2, [⟨0, 0, 0, 0, [2, 2], 3⟩], [3, 4]⟩
def saOne : List StepD := [⟨-1, 0, 0, [(0, 1), (1, 2)]⟩]
def saTwo : List StepD := [⟨-1, 0, 0, [(0, 1)]⟩]
def saThree : List StepD := [⟨0, 1, 2, []⟩, ⟨-1, 0, 0, [(1, 1)]⟩, ⟨1, 3, 4, []⟩, ⟨-1, 0, 0, [(1, 1)]⟩, ⟨-1, 0, 0, [(0, 1)]⟩]
def saGoal : List StepD := [⟨-1, 0, 0, [(0, 2), (1, 1)]⟩]
theorem sa_facts : refB saP saOne = true ∧ refB saP saTwo = false ∧ refB saP saThree = true ∧ wrongP saP saOne = -1 ∧ wrongP saP saTwo = 0 ∧ wrongP ⟨-1, [], []⟩ saOne = -2 ∧ wrongP saP [] = 0 := by decide +kernel
theorem sa_facts2 : boundsB saQ saGoal 6 = true ∧ boundsB saQ saGoal 5 = false ∧ refB saQ saGoal = false ∧ leavesN saThree 5 = 3 := by decide +kernel
theorem keys_two : intKeys (keysD [0, 1]) = [0, 1] := by decide +kernel
theorem sa_reach : reachF saOne saOne.length 0 = [0, 1] := by decide +kernel
theorem sa_used : usedP saP saOne = [0, 1] ∧ usedP saP saTwo = [] := by
  unfold usedP
  rw [sa_facts.2.2.2.1, sa_facts.2.2.2.2.1, if_pos rfl, if_neg (by decide), sa_reach]
  unfold keyed
  rw [keys_two]
  exact ⟨List.mergeSort_of_pairwise (by decide), rfl⟩
theorem leafl_any (wv : Value) (a : Option Addr) (n c : Nat) (w : World) (hw : wv = .slice a n c) : Calls Try.prog 31 #[wv] w (Ret (.agg #[.int .i64 (-1), .int .i64 0, .int .i64 0, wv]) w) := by
  subst hw
  go_enter Try.func31, Try.ntmps31
  go_wp2_with fail
  generalize hX1 : World.alloc w _ = X1
  have zX1 : X1.heap.size = w.heap.size + 1 := by rw [← hX1]; simp
  have bX1 : Below w.heap.size w X1 := by rw [← hX1]; exact bal w _
  have bS : Blk X1 (w.heap.size) [.int .i64 (-1), .int .i64 0, .int .i64 0, .slice a n c] 54 := by rw [← hX1]; exact Blk.newA w _ (by first | rfl | simp)
  have Xb := bX1
  have Xz := zX1
  clear hX1 zX1 bX1
  have c0 := bS.cell 0 rfl
  have c1 := bS.cell 1 rfl
  have c2 := bS.cell 2 rfl
  have c3 := bS.cell 3 rfl
  refine bodyPost_ret (v := .agg #[.int .i64 (-1), .int .i64 0, .int .i64 0, .slice a n c]) (by simp [results, Try.results31, go_sem, c0, c1, c2, c3]) rfl ?_
  exact ⟨rfl, Xb⟩
set_option maxHeartbeats 400000 in
theorem pickp_any (c n : Int) (w : World) (h1 : -9223372036854775808 ≤ c) (h2 : c ≤ 9223372036854775807) (hn : 0 < n) (hn2 : n ≤ 9223372036854775807) :
    Calls Try.prog 24 #[.int .i64 c, .int .i64 n] w (fun e w' => e = .returned (.int .i64 (pickF c n)) ∧ w' = w) := by
  have hne : n ≠ 0 := by omega
  have HF : Hid (pickF c n = absF c % n) := hide rfl
  have HP := hide (pickF_nonneg c hn)
  have HL := hide (pickF_lt c hn)
  by_cases hc : c < 0
  · have HA : Hid (absF c = -(c + 1)) := hide (by unfold absF; rw [if_pos hc])
    have HT : Hid ((-(c + 1)).tmod n = pickF c n) := hide (by rw [HF.out, HA.out]; exact Int.tmod_eq_emod_of_nonneg (by omega))
    go_enter Try.func24, Try.ntmps24
    go_wp2
    go_ret
    refine ⟨ret_int ?_, rfl⟩
    rw [← Int.neg_tmod]; exact HT.out
  · have HA : Hid (absF c = c) := hide (by unfold absF; rw [if_neg hc])
    have HT : Hid (c.tmod n = pickF c n) := hide (by rw [HF.out, HA.out]; exact Int.tmod_eq_emod_of_nonneg (by omega))
    go_enter Try.func24, Try.ntmps24
    go_wp2
    go_ret
    refine ⟨ret_int ?_, rfl⟩
    rw [HF.out, HA.out]
set_option maxHeartbeats 400000 in
theorem pickq_any (c n : Int) (w : World) (h1 : -9223372036854775808 ≤ c) (h2 : c ≤ 9223372036854775807) (hn : 0 < n) (hn2 : n ≤ 9223372036854775807) :
    Calls Try.prog 37 #[.int .i64 c, .int .i64 n] w (fun e w' => e = .returned (.int .i64 (pickF c n)) ∧ w' = w) := by
  have hne : n ≠ 0 := by omega
  have HF : Hid (pickF c n = absF c % n) := hide rfl
  have HP := hide (pickF_nonneg c hn)
  have HL := hide (pickF_lt c hn)
  by_cases hc : c < 0
  · have HA : Hid (absF c = -(c + 1)) := hide (by unfold absF; rw [if_pos hc])
    have HT : Hid ((-(c + 1)).tmod n = pickF c n) := hide (by rw [HF.out, HA.out]; exact Int.tmod_eq_emod_of_nonneg (by omega))
    go_enter Try.func37, Try.ntmps37
    go_wp2
    go_ret
    refine ⟨ret_int ?_, rfl⟩
    rw [← Int.neg_tmod]; exact HT.out
  · have HA : Hid (absF c = c) := hide (by unfold absF; rw [if_neg hc])
    have HT : Hid (c.tmod n = pickF c n) := hide (by rw [HF.out, HA.out]; exact Int.tmod_eq_emod_of_nonneg (by omega))
    go_enter Try.func37, Try.ntmps37
    go_wp2
    go_ret
    refine ⟨ret_int ?_, rfl⟩
    rw [HF.out, HA.out]
/-- weights and steps that a call lays in blocks of its own -/
theorem Blk.wts {w : World} {b : Nat} {vs : List Value} {l : List (Int × Int)} {t : TypeId} (h : Blk w b vs t) (hl : l.length ≤ 9223372036854775807)
    (h0 : ∀ k, k < l.length → vs[k * 2]? = some (.int .i64 (l.getD k wt0).1) ∧ vs[k * 2 + 1]? = some (.int .i64 (l.getD k wt0).2)) : WtsIn w.cell? (.slice (some ⟨b, 0, none⟩) l.length l.length) l :=
  ⟨some ⟨b, 0, none⟩, l.length, rfl, Nat.le_refl _, hl, fun k hk => ⟨b, 0, rfl, by rw [Nat.zero_add]; exact h.cell _ (h0 k hk).1, by rw [Nat.zero_add]; exact h.cell _ (h0 k hk).2⟩⟩
theorem Blk.steps {w : World} {b : Nat} {vs : List Value} {l : List StepD} {t : TypeId} (h : Blk w b vs t) (hl : l.length ≤ 9223372036854775807)
    (h0 : ∀ k, k < l.length → ∃ wv, vs[k * 4]? = some (.int .i64 (l.getD k st0).var) ∧ vs[k * 4 + 1]? = some (.int .i64 (l.getD k st0).no) ∧ vs[k * 4 + 2]? = some (.int .i64 (l.getD k st0).yes) ∧ vs[k * 4 + 3]? = some wv ∧ WtsIn w.cell? wv (l.getD k st0).wts) : StepsIn w.cell? (.slice (some ⟨b, 0, none⟩) l.length l.length) l :=
  ⟨some ⟨b, 0, none⟩, l.length, rfl, Nat.le_refl _, hl, fun k hk => by
    obtain ⟨wv, h1, h2, h3, h4, h5⟩ := h0 k hk
    refine ⟨b, 0, wv, rfl, ?_, ?_, ?_, ?_, h5⟩ <;> (rw [Nat.zero_add]; first | exact h.cell _ h1 | exact h.cell _ h2 | exact h.cell _ h3 | exact h.cell _ h4)⟩
theorem RowsIn.empty (c : Rd) : RowsIn c (.slice none 0 0) [] := ⟨none, 0, rfl, Nat.le_refl _, by omega, fun k hk => by simp at hk⟩
theorem WtsIn.empty (c : Rd) : WtsIn c (.slice none 0 0) [] := ⟨none, 0, rfl, Nat.le_refl _, by omega, fun k hk => by simp at hk⟩
end Go.Proofs.Ytppfdjjhloaopaa
/- The walk of the law's sane: it returns true. No condition. -/
namespace Go.Proofs.Ytppfdjjhloaopaa
open Go.RowKit

set_option maxRecDepth 100000 in
set_option maxHeartbeats 4000000 in
theorem sane34_any (w : World) : Calls Try.prog 9 #[] w (Ret (.bool true) w) := by
  go_enter Try.func9, Try.ntmps9
  go_wp2_with fail
  generalize hX1 : World.alloc w _ = X1
  have zX1 : X1.heap.size = w.heap.size + 1 := by rw [← hX1]; simp
  have bX1 : Below w.heap.size w X1 := by rw [← hX1]; exact bal w _
  have c1_1 : Blk X1 (w.heap.size) [.int .i64 2, .int .i64 2] 3 := by rw [← hX1]; exact Blk.newA w _ (by first | rfl | simp)
  generalize hX2 : World.alloc X1 _ = X2
  have zX2 : X2.heap.size = w.heap.size + 1 + 1 := by rw [← hX2]; simp [zX1]
  have bX2 : Below X1.heap.size X1 X2 := by rw [← hX2]; exact bal X1 _
  have c2_2 : Blk X2 (w.heap.size + 1) [.int .i64 (-1), .int .i64 (-1)] 3 := by rw [← hX2, ← zX1]; exact Blk.newA X1 _ (by first | rfl | simp)
  have c1_2 := c1_1.later bX2
  generalize hX3 : World.alloc X2 _ = X3
  have zX3 : X3.heap.size = w.heap.size + 1 + 1 + 1 := by rw [← hX3]; simp [zX2]
  have bX3 : Below X2.heap.size X2 X3 := by rw [← hX3]; exact bal X2 _
  have cR_3 : Blk X3 (w.heap.size + 1 + 1) [.int .i64 0, .int .i64 0, .int .i64 0, .int .i64 0, .slice (some ⟨w.heap.size, 0, none⟩) 2 2, .int .i64 3, .int .i64 0, .int .i64 0, .int .i64 0, .int .i64 0, .slice (some ⟨w.heap.size + 1, 0, none⟩) 2 2, .int .i64 (-2)] 67 := by rw [← hX3, ← zX2]; exact Blk.newA X2 _ (by first | rfl | simp)
  have c1_3 := c1_2.later bX3
  have c2_3 := c2_2.later bX3
  generalize hX4 : World.alloc X3 _ = X4
  have zX4 : X4.heap.size = w.heap.size + 1 + 1 + 1 + 1 := by rw [← hX4]; simp [zX3]
  have bX4 : Below X3.heap.size X3 X4 := by rw [← hX4]; exact bal X3 _
  have cG_4 : Blk X4 (w.heap.size + 1 + 1 + 1) [.int .i64 3, .int .i64 4] 3 := by rw [← hX4, ← zX3]; exact Blk.newA X3 _ (by first | rfl | simp)
  have c1_4 := c1_3.later bX4
  have c2_4 := c2_3.later bX4
  have cR_4 := cR_3.later bX4
  generalize hX5 : World.alloc X4 _ = X5
  have zX5 : X5.heap.size = w.heap.size + 1 + 1 + 1 + 1 + 1 := by rw [← hX5]; simp [zX4]
  have bX5 : Below X4.heap.size X4 X5 := by rw [← hX5]; exact bal X4 _
  have bP_5 : Blk X5 (w.heap.size + 1 + 1 + 1 + 1) [.int .i64 2, .slice (some ⟨w.heap.size + 1 + 1, 0, none⟩) 2 2, .slice (some ⟨w.heap.size + 1 + 1 + 1, 0, none⟩) 2 2] 27 := by rw [← hX5, ← zX4]; exact Blk.newA X4 _ (by first | rfl | simp)
  have c1_5 := c1_4.later bX5
  have c2_5 := c2_4.later bX5
  have cR_5 := cR_4.later bX5
  have cG_5 := cG_4.later bX5
  generalize hX6 : World.alloc X5 _ = X6
  have zX6 : X6.heap.size = w.heap.size + 1 + 1 + 1 + 1 + 1 + 1 := by rw [← hX6]; simp [zX5]
  have bX6 : Below X5.heap.size X5 X6 := by rw [← hX6]; exact bal X5 _
  have v1 : Blk X6 (w.heap.size + 1 + 1 + 1 + 1 + 1) [.int .i64 0, .int .i64 1, .int .i64 1, .int .i64 2] 56 := by rw [← hX6, ← zX5]; exact Blk.newA X5 _ (by first | rfl | simp)
  have c1 := c1_5.later bX6
  have c2 := c2_5.later bX6
  have cR := cR_5.later bX6
  have cG := cG_5.later bX6
  have bP := bP_5.later bX6
  have Xb := below2 (below2 (below2 (below2 (below2 (bX1) bX2) bX3) bX4) bX5) bX6
  have Xz := zX6
  clear hX1 zX1 bX1 hX2 zX2 bX2 hX3 zX3 bX3 hX4 zX4 bX4 hX5 zX5 bX5 hX6 zX6 bX6 c1_1 c1_2 c1_3 c1_4 c1_5 c2_2 c2_3 c2_4 c2_5 cR_3 cR_4 cR_5 cG_4 cG_5 bP_5
  have hG : IntsAt X6 (.slice (some ⟨w.heap.size + 1 + 1 + 1, 0, none⟩) 2 2) saP.gain := (cG.ints (l := [3, 4]) (B := 0) (Nat.zero_le _) (by decide)).keeps (keeps_frm _ _)
  have hR : RowsAt X6 (.slice (some ⟨w.heap.size + 1 + 1, 0, none⟩) 2 2) saP.rows := RowsIn.keeps (keeps_frm 0 _) (Blk.rows (L := [[.int .i64 0, .int .i64 0, .int .i64 0, .int .i64 0, .slice (some ⟨w.heap.size, 0, none⟩) 2 2, .int .i64 3], [.int .i64 0, .int .i64 0, .int .i64 0, .int .i64 0, .slice (some ⟨w.heap.size + 1, 0, none⟩) 2 2, .int .i64 (-2)]]) (l := saP.rows) cR (Nat.zero_le _) (by decide) (by intro r hr; simp at hr; rcases hr with rfl | rfl <;> rfl) rfl (fun i hi => by
    match i, hi with
    | 0, _ => exact ⟨_, rfl, c1.ints (l := [2, 2]) (Nat.zero_le _) (by decide)⟩
    | 1, _ => exact ⟨_, rfl, c2.ints (l := [-1, -1]) (Nat.zero_le _) (by decide)⟩))
  clear c1 c2 cR cG Xz
  refine (leafl_any _ _ _ _ X6 rfl).mono ?_
  rintro e w1 ⟨rfl, hb⟩
  have hw1 := below2 Xb hb
  have V1 := v1.later hb
  have P1 := bP.later hb
  have hR1 := hR.below hb
  have hG1 := hG.below hb
  clear hb Xb v1 bP hR hG
  go_wp2_with fail
  generalize hY1 : World.alloc w1 _ = Y1
  have zY1 : Y1.heap.size = w1.heap.size + 1 := by rw [← hY1]; simp
  have bY1 : Below w1.heap.size w1 Y1 := by rw [← hY1]; exact bal w1 _
  have s1_1 : Blk Y1 (w1.heap.size) [.int .i64 (-1), .int .i64 0, .int .i64 0, .slice (some ⟨w.heap.size + 1 + 1 + 1 + 1 + 1, 0, none⟩) 2 2] 54 := by rw [← hY1]; exact Blk.newA w1 _ (by first | rfl | simp)
  generalize hY2 : World.alloc Y1 _ = Y2
  have zY2 : Y2.heap.size = w1.heap.size + 1 + 1 := by rw [← hY2]; simp [zY1]
  have bY2 : Below Y1.heap.size Y1 Y2 := by rw [← hY2]; exact bal Y1 _
  have v2 : Blk Y2 (w1.heap.size + 1) [.int .i64 0, .int .i64 1] 56 := by rw [← hY2, ← zY1]; exact Blk.newA Y1 _ (by first | rfl | simp)
  have s1 := s1_1.later bY2
  have Yb := below2 (bY1) bY2
  have Yz := zY2
  clear hY1 zY1 bY1 hY2 zY2 bY2 s1_1
  have hOne : StepsIn Y2.cell? (.slice (some ⟨w1.heap.size, 0, none⟩) 1 1) saOne := Blk.steps (l := saOne) s1 (by decide) (fun k hk => by
    match k, hk with
    | 0, _ => exact ⟨_, rfl, rfl, rfl, rfl, (V1.later Yb).wts (l := [(0, 1), (1, 2)]) (by decide) (fun k hk => by
        match k, hk with
        | 0, _ => exact ⟨rfl, rfl⟩
        | 1, _ => exact ⟨rfl, rfl⟩)⟩)
  refine (leafl_any _ _ _ _ Y2 rfl).mono ?_
  rintro e w2 ⟨rfl, hb⟩
  have hb2 := below2 Yb hb
  have hw2 := below2 hw1 hb2
  have V2 := v2.later hb
  have P2 := P1.later hb2
  have hR2 := hR1.below hb2
  have hG2 := hG1.below hb2
  have O2 := hOne.keeps (keeps_of_below hb)
  have ySz := below2 Yb hb
  clear hb Yb v2 hOne s1 V1 P1 hR1 hG1 hb2 Yz
  go_wp2_with fail
  generalize hZ1 : World.alloc w2 _ = Z1
  have zZ1 : Z1.heap.size = w2.heap.size + 1 := by rw [← hZ1]; simp
  have bZ1 : Below w2.heap.size w2 Z1 := by rw [← hZ1]; exact bal w2 _
  have s2_1 : Blk Z1 (w2.heap.size) [.int .i64 (-1), .int .i64 0, .int .i64 0, .slice (some ⟨w1.heap.size + 1, 0, none⟩) 1 1] 54 := by rw [← hZ1]; exact Blk.newA w2 _ (by first | rfl | simp)
  generalize hZ2 : World.alloc Z1 _ = Z2
  have zZ2 : Z2.heap.size = w2.heap.size + 1 + 1 := by rw [← hZ2]; simp [zZ1]
  have bZ2 : Below Z1.heap.size Z1 Z2 := by rw [← hZ2]; exact bal Z1 _
  have v3 : Blk Z2 (w2.heap.size + 1) [.int .i64 1, .int .i64 1] 56 := by rw [← hZ2, ← zZ1]; exact Blk.newA Z1 _ (by first | rfl | simp)
  have s2 := s2_1.later bZ2
  have Zb := below2 (bZ1) bZ2
  have Zz := zZ2
  clear hZ1 zZ1 bZ1 hZ2 zZ2 bZ2 s2_1
  have hTwo : StepsIn Z2.cell? (.slice (some ⟨w2.heap.size, 0, none⟩) 1 1) saTwo := Blk.steps (l := saTwo) s2 (by decide) (fun k hk => by
    match k, hk with
    | 0, _ => exact ⟨_, rfl, rfl, rfl, rfl, (V2.later Zb).wts (l := [(0, 1)]) (by decide) (fun k hk => by
        match k, hk with
        | 0, _ => exact ⟨rfl, rfl⟩)⟩)
  refine (leafl_any _ _ _ _ Z2 rfl).mono ?_
  rintro e w3 ⟨rfl, hb⟩
  have hb3 := below2 Zb hb
  have hw3 := below2 hw2 hb3
  have V3 := v3.later hb
  have P3 := P2.later hb3
  have hR3 := hR2.below hb3
  have hG3 := hG2.below hb3
  have O3 := O2.keeps (keeps_of_below hb3)
  have T3 := hTwo.keeps (keeps_of_below hb)
  clear hb Zb v3 hTwo s2 V2 P2 hR2 hG2 hb3 O2 Zz
  go_wp2_with fail
  generalize hU1 : World.alloc w3 _ = U1
  have zU1 : U1.heap.size = w3.heap.size + 1 := by rw [← hU1]; simp
  have bU1 : Below w3.heap.size w3 U1 := by rw [← hU1]; exact bal w3 _
  have v4 : Blk U1 (w3.heap.size) [.int .i64 1, .int .i64 1] 56 := by rw [← hU1]; exact Blk.newA w3 _ (by first | rfl | simp)
  have Ub := bU1
  have Uz := zU1
  clear hU1 zU1 bU1
  refine (leafl_any _ _ _ _ U1 rfl).mono ?_
  rintro e w4 ⟨rfl, hb⟩
  have hb4 := below2 Ub hb
  have V4 := v4.later hb
  go_wp2_with fail
  generalize hV1 : World.alloc w4 _ = V1
  have zV1 : V1.heap.size = w4.heap.size + 1 := by rw [← hV1]; simp
  have bV1 : Below w4.heap.size w4 V1 := by rw [← hV1]; exact bal w4 _
  have v5 : Blk V1 (w4.heap.size) [.int .i64 0, .int .i64 1] 56 := by rw [← hV1]; exact Blk.newA w4 _ (by first | rfl | simp)
  have Vb := bV1
  have Vz := zV1
  clear hV1 zV1 bV1
  refine (leafl_any _ _ _ _ V1 rfl).mono ?_
  rintro e w5 ⟨rfl, hb'⟩
  have hb5 := below2 Vb hb'
  have hb35 := below2 hb4 hb5
  have hw5 := below2 hw3 hb35
  have V5 := v5.later hb'
  have W4 := V4.later hb5
  have W3 := V3.later hb35
  have P5 := P3.later hb35
  have hR5 := hR3.below hb35
  have hG5 := hG3.below hb35
  have O5 := O3.keeps (keeps_of_below hb35)
  have T5 := T3.keeps (keeps_of_below hb35)
  clear hb Ub Uz Vb Vz hb' v4 v5 hb4 hb5 hb35 V4 V3 P3 hR3 hG3 O3 T3
  go_upto_region 5 with (fail)
  generalize hD1 : World.alloc w5 _ = D1
  have zD1 : D1.heap.size = w5.heap.size + 1 := by rw [← hD1]; simp
  have bD1 : Below w5.heap.size w5 D1 := by rw [← hD1]; exact bal w5 _
  have s3 : Blk D1 (w5.heap.size) [.int .i64 0, .int .i64 1, .int .i64 2, .slice none 0 0, .int .i64 (-1), .int .i64 0, .int .i64 0, .slice (some ⟨w2.heap.size + 1, 0, none⟩) 1 1, .int .i64 1, .int .i64 3, .int .i64 4, .slice none 0 0, .int .i64 (-1), .int .i64 0, .int .i64 0, .slice (some ⟨w3.heap.size, 0, none⟩) 1 1, .int .i64 (-1), .int .i64 0, .int .i64 0, .slice (some ⟨w4.heap.size, 0, none⟩) 1 1] 54 := by rw [← hD1]; exact Blk.newA w5 _ (by first | rfl | simp)
  have Db := bD1
  have Dz := zD1
  clear hD1 zD1 bD1
  have hThree : StepsIn D1.cell? (.slice (some ⟨w5.heap.size, 0, none⟩) 5 5) saThree := Blk.steps (l := saThree) s3 (by decide) (fun k hk => by
    match k, hk with
    | 0, _ => exact ⟨_, rfl, rfl, rfl, rfl, WtsIn.empty _⟩
    | 1, _ => exact ⟨_, rfl, rfl, rfl, rfl, (W3.later Db).wts (l := [(1, 1)]) (by decide) (fun k hk => by
        match k, hk with
        | 0, _ => exact ⟨rfl, rfl⟩)⟩
    | 2, _ => exact ⟨_, rfl, rfl, rfl, rfl, WtsIn.empty _⟩
    | 3, _ => exact ⟨_, rfl, rfl, rfl, rfl, (W4.later Db).wts (l := [(1, 1)]) (by decide) (fun k hk => by
        match k, hk with
        | 0, _ => exact ⟨rfl, rfl⟩)⟩
    | 4, _ => exact ⟨_, rfl, rfl, rfl, rfl, (V5.later Db).wts (l := [(0, 1)]) (by decide) (fun k hk => by
        match k, hk with
        | 0, _ => exact ⟨rfl, rfl⟩)⟩)
  have hwD := below2 hw5 Db
  have PD := P5.later Db
  have hRD := hR5.below Db
  have hGD := hG5.below Db
  have OD := O5.keeps (keeps_of_below Db)
  have TD := T5.keeps (keeps_of_below Db)
  have p0 := PD.cell 0 rfl
  have p1 := PD.cell 1 rfl
  have p2 := PD.cell 2 rfl
  have lP := PD.lt
  have Db' := Below.refl D1.heap.size D1
  clear Dz s3 P5 hR5 hG5 O5 T5 W3 W4 V5 hw5 hw3 hw2 hw1
  go_wp2_with fail
  generalize hE1 : World.alloc D1 _ = E1
  have zE1 : E1.heap.size = D1.heap.size + 1 := by rw [← hE1]; simp
  have bE1 : Below D1.heap.size D1 E1 := by rw [← hE1]; exact bal D1 _
  have bQ_1 : Blk E1 (D1.heap.size) [.int .i64 2, .slice (some ⟨w.heap.size + 1 + 1, 0, none⟩) 1 2, .slice (some ⟨w.heap.size + 1 + 1 + 1, 0, none⟩) 2 2] 27 := by rw [← hE1]; exact Blk.newA D1 _ (by first | rfl | simp)
  generalize hE2 : World.alloc E1 _ = E2
  have zE2 : E2.heap.size = D1.heap.size + 1 + 1 := by rw [← hE2]; simp [zE1]
  have bE2 : Below E1.heap.size E1 E2 := by rw [← hE2]; exact bal E1 _
  have v6 : Blk E2 (D1.heap.size + 1) [.int .i64 0, .int .i64 2, .int .i64 1, .int .i64 1] 56 := by rw [← hE2, ← zE1]; exact Blk.newA E1 _ (by first | rfl | simp)
  have bQ := bQ_1.later bE2
  have Eb := below2 (bE1) bE2
  have Ez := zE2
  clear hE1 zE1 bE1 hE2 zE2 bE2 bQ_1
  have hRQ : RowsAt D1 (.slice (some ⟨w.heap.size + 1 + 1, 0, none⟩) 1 2) saQ.rows := by
    obtain ⟨a', n', e', -, -, hh⟩ := hRD
    injection e' with e1 e2 e3
    subst e1
    exact ⟨_, _, rfl, by decide, by decide, fun k hk => by
      match k, hk with
      | 0, _ => exact hh 0 (by decide)⟩
  refine (leafl_any _ _ _ _ E2 rfl).mono ?_
  rintro e w6 ⟨rfl, hb⟩
  have hb6 := below2 Eb hb
  have V6 := v6.later hb
  have P := PD.later hb6
  have Q := bQ.later hb
  have hR := hRD.below hb6
  have hG := hGD.below hb6
  replace hRQ := hRQ.below hb6
  have hO := OD.keeps (keeps_of_below hb6)
  have hT := TD.keeps (keeps_of_below hb6)
  have hH := hThree.keeps (keeps_of_below (below2 Db' hb6))
  have hw := below2 hwD hb6
  clear hb Eb Ez bQ v6 PD hRD hGD OD TD hThree hwD hb6 p0 p1 p2 lP
  go_wp2_with fail
  generalize hF1 : World.alloc w6 _ = F1
  have zF1 : F1.heap.size = w6.heap.size + 1 := by rw [← hF1]; simp
  have bF1 : Below w6.heap.size w6 F1 := by rw [← hF1]; exact bal w6 _
  have s4 : Blk F1 (w6.heap.size) [.int .i64 (-1), .int .i64 0, .int .i64 0, .slice (some ⟨D1.heap.size + 1, 0, none⟩) 2 2] 54 := by rw [← hF1]; exact Blk.newA w6 _ (by first | rfl | simp)
  have Fb := bF1
  have Fz := zF1
  clear hF1 zF1 bF1
  have hL : StepsIn F1.cell? (.slice (some ⟨w6.heap.size, 0, none⟩) 1 1) saGoal := Blk.steps (l := saGoal) s4 (by decide) (fun k hk => by
    match k, hk with
    | 0, _ => exact ⟨_, rfl, rfl, rfl, rfl, (V6.later Fb).wts (l := [(0, 2), (1, 1)]) (by decide) (fun k hk => by
        match k, hk with
        | 0, _ => exact ⟨rfl, rfl⟩
        | 1, _ => exact ⟨rfl, rfl⟩)⟩)
  replace P := P.later Fb
  replace Q := Q.later Fb
  replace hR := hR.below Fb
  replace hG := hG.below Fb
  replace hRQ := hRQ.below Fb
  replace hO := hO.keeps (keeps_of_below Fb)
  replace hT := hT.keeps (keeps_of_below Fb)
  replace hH := hH.keeps (keeps_of_below Fb)
  have hw := below2 hw Fb
  clear Fb Fz s4 V6
  refine (sizep_any saThree _ F1 hH).mono ?_
  rw [show leavesN saThree saThree.length = 3 from sa_facts2.2.2.2]
  rintro e w7 ⟨rfl, hb7⟩
  have p0 := P.cell 0 rfl
  have p1 := P.cell 1 rfl
  have p2 := P.cell 2 rfl
  have q0 := Q.cell 0 rfl
  have q1 := Q.cell 1 rfl
  have q2 := Q.cell 2 rfl
  have lP := P.lt
  have lQ := Q.lt
  replace P := P.later hb7
  replace Q := Q.later hb7
  replace hR := hR.below hb7
  replace hG := hG.below hb7
  replace hRQ := hRQ.below hb7
  replace hO := hO.keeps (keeps_of_below hb7)
  replace hT := hT.keeps (keeps_of_below hb7)
  replace hH := hH.keeps (keeps_of_below hb7)
  replace hL := hL.keeps (keeps_of_below hb7)
  replace p0 := P.cell 0 rfl
  replace p1 := P.cell 1 rfl
  replace p2 := P.cell 2 rfl
  replace q0 := Q.cell 0 rfl
  replace q1 := Q.cell 1 rfl
  replace q2 := Q.cell 2 rfl
  replace lP := P.lt
  replace lQ := Q.lt
  replace hw := below2 hw hb7
  clear hb7
  go_wp2_with fail
  refine (refutesp_any saP _ _ saOne _ w7 hR hG hO).mono ?_
  rw [sa_facts.1]
  rintro e w8 ⟨rfl, hb8⟩
  replace P := P.later hb8
  replace Q := Q.later hb8
  replace hR := hR.below hb8
  replace hG := hG.below hb8
  replace hRQ := hRQ.below hb8
  replace hO := hO.keeps (keeps_of_below hb8)
  replace hT := hT.keeps (keeps_of_below hb8)
  replace hH := hH.keeps (keeps_of_below hb8)
  replace hL := hL.keeps (keeps_of_below hb8)
  replace p0 := P.cell 0 rfl
  replace p1 := P.cell 1 rfl
  replace p2 := P.cell 2 rfl
  replace q0 := Q.cell 0 rfl
  replace q1 := Q.cell 1 rfl
  replace q2 := Q.cell 2 rfl
  replace lP := P.lt
  replace lQ := Q.lt
  replace hw := below2 hw hb8
  go_wp2_with fail
  refine (refutesp_any saP _ _ saTwo _ w8 hR hG hT).mono ?_
  rw [sa_facts.2.1]
  rintro e w9 ⟨rfl, hb9⟩
  replace P := P.later hb9
  replace Q := Q.later hb9
  replace hR := hR.below hb9
  replace hG := hG.below hb9
  replace hRQ := hRQ.below hb9
  replace hO := hO.keeps (keeps_of_below hb9)
  replace hT := hT.keeps (keeps_of_below hb9)
  replace hH := hH.keeps (keeps_of_below hb9)
  replace hL := hL.keeps (keeps_of_below hb9)
  replace p0 := P.cell 0 rfl
  replace p1 := P.cell 1 rfl
  replace p2 := P.cell 2 rfl
  replace q0 := Q.cell 0 rfl
  replace q1 := Q.cell 1 rfl
  replace q2 := Q.cell 2 rfl
  replace lP := P.lt
  replace lQ := Q.lt
  replace hw := below2 hw hb9
  go_wp2_with fail
  refine (refutesp_any saP _ _ saThree _ w9 hR hG hH).mono ?_
  rw [sa_facts.2.2.1]
  rintro e w10 ⟨rfl, hb10⟩
  replace P := P.later hb10
  replace Q := Q.later hb10
  replace hR := hR.below hb10
  replace hG := hG.below hb10
  replace hRQ := hRQ.below hb10
  replace hO := hO.keeps (keeps_of_below hb10)
  replace hT := hT.keeps (keeps_of_below hb10)
  replace hH := hH.keeps (keeps_of_below hb10)
  replace hL := hL.keeps (keeps_of_below hb10)
  replace p0 := P.cell 0 rfl
  replace p1 := P.cell 1 rfl
  replace p2 := P.cell 2 rfl
  replace q0 := Q.cell 0 rfl
  replace q1 := Q.cell 1 rfl
  replace q2 := Q.cell 2 rfl
  replace lP := P.lt
  replace lQ := Q.lt
  replace hw := below2 hw hb10
  go_wp2_with fail
  refine (wrong_any saP _ _ saOne _ w10 hR hG hO).mono ?_
  rw [sa_facts.2.2.2.1]
  rintro e w11 ⟨rfl, hb11⟩
  replace P := P.later hb11
  replace Q := Q.later hb11
  replace hR := hR.below hb11
  replace hG := hG.below hb11
  replace hRQ := hRQ.below hb11
  replace hO := hO.keeps (keeps_of_below hb11)
  replace hT := hT.keeps (keeps_of_below hb11)
  replace hH := hH.keeps (keeps_of_below hb11)
  replace hL := hL.keeps (keeps_of_below hb11)
  replace p0 := P.cell 0 rfl
  replace p1 := P.cell 1 rfl
  replace p2 := P.cell 2 rfl
  replace q0 := Q.cell 0 rfl
  replace q1 := Q.cell 1 rfl
  replace q2 := Q.cell 2 rfl
  replace lP := P.lt
  replace lQ := Q.lt
  replace hw := below2 hw hb11
  go_wp2_with fail
  refine (wrong_any saP _ _ saTwo _ w11 hR hG hT).mono ?_
  rw [sa_facts.2.2.2.2.1]
  rintro e w12 ⟨rfl, hb12⟩
  replace P := P.later hb12
  replace Q := Q.later hb12
  replace hR := hR.below hb12
  replace hG := hG.below hb12
  replace hRQ := hRQ.below hb12
  replace hO := hO.keeps (keeps_of_below hb12)
  replace hT := hT.keeps (keeps_of_below hb12)
  replace hH := hH.keeps (keeps_of_below hb12)
  replace hL := hL.keeps (keeps_of_below hb12)
  replace p0 := P.cell 0 rfl
  replace p1 := P.cell 1 rfl
  replace p2 := P.cell 2 rfl
  replace q0 := Q.cell 0 rfl
  replace q1 := Q.cell 1 rfl
  replace q2 := Q.cell 2 rfl
  replace lP := P.lt
  replace lQ := Q.lt
  replace hw := below2 hw hb12
  go_wp2_with fail
  refine (wrong_any ⟨-1, [], []⟩ (.slice none 0 0) (.slice none 0 0) saOne _ w12 (RowsIn.empty _) (IntsIn.nil _) hO).mono ?_
  rw [sa_facts.2.2.2.2.2.1]
  rintro e w13 ⟨rfl, hb13⟩
  replace P := P.later hb13
  replace Q := Q.later hb13
  replace hR := hR.below hb13
  replace hG := hG.below hb13
  replace hRQ := hRQ.below hb13
  replace hO := hO.keeps (keeps_of_below hb13)
  replace hT := hT.keeps (keeps_of_below hb13)
  replace hH := hH.keeps (keeps_of_below hb13)
  replace hL := hL.keeps (keeps_of_below hb13)
  replace p0 := P.cell 0 rfl
  replace p1 := P.cell 1 rfl
  replace p2 := P.cell 2 rfl
  replace q0 := Q.cell 0 rfl
  replace q1 := Q.cell 1 rfl
  replace q2 := Q.cell 2 rfl
  replace lP := P.lt
  replace lQ := Q.lt
  replace hw := below2 hw hb13
  go_wp2_with fail
  refine (wrong_any saP _ _ [] _ w13 hR hG (StepsIn.nil _)).mono ?_
  rw [sa_facts.2.2.2.2.2.2]
  rintro e w14 ⟨rfl, hb14⟩
  replace P := P.later hb14
  replace Q := Q.later hb14
  replace hR := hR.below hb14
  replace hG := hG.below hb14
  replace hRQ := hRQ.below hb14
  replace hO := hO.keeps (keeps_of_below hb14)
  replace hT := hT.keeps (keeps_of_below hb14)
  replace hH := hH.keeps (keeps_of_below hb14)
  replace hL := hL.keeps (keeps_of_below hb14)
  replace p0 := P.cell 0 rfl
  replace p1 := P.cell 1 rfl
  replace p2 := P.cell 2 rfl
  replace q0 := Q.cell 0 rfl
  replace q1 := Q.cell 1 rfl
  replace q2 := Q.cell 2 rfl
  replace lP := P.lt
  replace lQ := Q.lt
  replace hw := below2 hw hb14
  go_wp2_with fail
  refine (bounds_any saQ _ _ saGoal _ 6 w14 hRQ hG hL (by decide) (by decide)).mono ?_
  rw [sa_facts2.1]
  rintro e w15 ⟨rfl, hb15⟩
  replace P := P.later hb15
  replace Q := Q.later hb15
  replace hR := hR.below hb15
  replace hG := hG.below hb15
  replace hRQ := hRQ.below hb15
  replace hO := hO.keeps (keeps_of_below hb15)
  replace hT := hT.keeps (keeps_of_below hb15)
  replace hH := hH.keeps (keeps_of_below hb15)
  replace hL := hL.keeps (keeps_of_below hb15)
  replace p0 := P.cell 0 rfl
  replace p1 := P.cell 1 rfl
  replace p2 := P.cell 2 rfl
  replace q0 := Q.cell 0 rfl
  replace q1 := Q.cell 1 rfl
  replace q2 := Q.cell 2 rfl
  replace lP := P.lt
  replace lQ := Q.lt
  replace hw := below2 hw hb15
  go_wp2_with fail
  refine (bounds_any saQ _ _ saGoal _ 5 w15 hRQ hG hL (by decide) (by decide)).mono ?_
  rw [sa_facts2.2.1]
  rintro e w16 ⟨rfl, hb16⟩
  replace P := P.later hb16
  replace Q := Q.later hb16
  replace hR := hR.below hb16
  replace hG := hG.below hb16
  replace hRQ := hRQ.below hb16
  replace hO := hO.keeps (keeps_of_below hb16)
  replace hT := hT.keeps (keeps_of_below hb16)
  replace hH := hH.keeps (keeps_of_below hb16)
  replace hL := hL.keeps (keeps_of_below hb16)
  replace p0 := P.cell 0 rfl
  replace p1 := P.cell 1 rfl
  replace p2 := P.cell 2 rfl
  replace q0 := Q.cell 0 rfl
  replace q1 := Q.cell 1 rfl
  replace q2 := Q.cell 2 rfl
  replace lP := P.lt
  replace lQ := Q.lt
  replace hw := below2 hw hb16
  go_wp2_with fail
  refine (refutesp_any saQ _ _ saGoal _ w16 hRQ hG hL).mono ?_
  rw [sa_facts2.2.2.1]
  rintro e w17 ⟨rfl, hb17⟩
  replace P := P.later hb17
  replace Q := Q.later hb17
  replace hR := hR.below hb17
  replace hG := hG.below hb17
  replace hRQ := hRQ.below hb17
  replace hO := hO.keeps (keeps_of_below hb17)
  replace hT := hT.keeps (keeps_of_below hb17)
  replace hH := hH.keeps (keeps_of_below hb17)
  replace hL := hL.keeps (keeps_of_below hb17)
  replace p0 := P.cell 0 rfl
  replace p1 := P.cell 1 rfl
  replace p2 := P.cell 2 rfl
  replace q0 := Q.cell 0 rfl
  replace q1 := Q.cell 1 rfl
  replace q2 := Q.cell 2 rfl
  replace lP := P.lt
  replace lQ := Q.lt
  replace hw := below2 hw hb17
  go_wp2_with fail
  refine (rowsp_any saP _ _ saOne _ w17 hR hG hO).mono ?_
  rw [sa_used.1]
  rintro e w18 ⟨v, rfl, hv, hb18⟩
  obtain ⟨va, vc, rfl, -⟩ := id hv
  have hv18 : IntsAt w18 _ _ := hv.keeps (keeps_frm _ _)
  replace P := P.later hb18
  replace Q := Q.later hb18
  replace hR := hR.below hb18
  replace hG := hG.below hb18
  replace hRQ := hRQ.below hb18
  replace hO := hO.keeps (keeps_of_below hb18)
  replace hT := hT.keeps (keeps_of_below hb18)
  replace hH := hH.keeps (keeps_of_below hb18)
  replace hL := hL.keeps (keeps_of_below hb18)
  replace p0 := P.cell 0 rfl
  replace p1 := P.cell 1 rfl
  replace p2 := P.cell 2 rfl
  replace q0 := Q.cell 0 rfl
  replace q1 := Q.cell 1 rfl
  replace q2 := Q.cell 2 rfl
  replace lP := P.lt
  replace lQ := Q.lt
  replace hw := below2 hw hb18
  clear hv
  go_wp2_with fail
  generalize hG1 : World.alloc w18 _ = G1
  have zG1 : G1.heap.size = w18.heap.size + 1 := by rw [← hG1]; simp
  have bG1 : Below w18.heap.size w18 G1 := by rw [← hG1]; exact bal w18 _
  have i2 : Blk G1 (w18.heap.size) [.int .i64 0, .int .i64 1] 3 := by rw [← hG1]; exact Blk.newA w18 _ (by first | rfl | simp)
  have Gb := bG1
  have Gz := zG1
  clear hG1 zG1 bG1
  refine (ints_any [0, 1] [0, 1] _ _ G1 (hv18.below Gb) ((i2.ints (l := [0, 1]) (B := 0) (Nat.zero_le _) (by decide)).keeps (keeps_frm _ _))).mono ?_
  rw [show intsB [0, 1] [0, 1] = true from rfl]
  rintro e w19 ⟨rfl, hb19⟩
  have hb1819 := below2 Gb hb19
  replace P := P.later hb1819
  replace Q := Q.later hb1819
  replace hR := hR.below hb1819
  replace hG := hG.below hb1819
  replace hRQ := hRQ.below hb1819
  replace hO := hO.keeps (keeps_of_below hb1819)
  replace hT := hT.keeps (keeps_of_below hb1819)
  replace hH := hH.keeps (keeps_of_below hb1819)
  replace hL := hL.keeps (keeps_of_below hb1819)
  replace p0 := P.cell 0 rfl
  replace p1 := P.cell 1 rfl
  replace p2 := P.cell 2 rfl
  replace q0 := Q.cell 0 rfl
  replace q1 := Q.cell 1 rfl
  replace q2 := Q.cell 2 rfl
  replace lP := P.lt
  replace lQ := Q.lt
  replace hw := below2 hw hb1819
  clear Gb Gz i2 hv18
  go_wp2_with fail
  refine (rowsp_any saP _ _ saTwo _ w19 hR hG hT).mono ?_
  rw [sa_used.2]
  rintro e w20 ⟨v, rfl, hv, hb20⟩
  obtain ⟨va', vc', rfl, -⟩ := id hv
  replace hw := below2 hw hb20
  clear hv
  go_wp2_with fail
  go_ret
  exact ⟨rfl, hw⟩
end Go.Proofs.Ytppfdjjhloaopaa
/- Memory for the walk of Bent of the reference: a copy of a proof, of which one step has weights of its own. Conditions: how the values lie in memory; sizes. -/
namespace Go.Proofs.Ytppfdjjhloaopaa
open Go.RowKit

theorem infoWt : (Try.prog.info? 56).map (fun i => (i.zero, i.size, i.bytes)) = some (some (.agg #[.int .i64 0, .int .i64 0]), 2, 16) := by kernel_rfl
def wtCells (p : Int × Int) : List Value := [.int .i64 p.1, .int .i64 p.2]
/-- the cells of a list of steps that lies anywhere -/
theorem steps_list {c : Rd} {sa : Option Addr} {sc : Nat} {l : List StepD} (h : StepsIn c (.slice sa l.length sc) l) : ∃ L : List (List Value), L.length = l.length ∧ (∀ r ∈ L, r.length = 4) ∧ (∀ u ∈ L.flatten, u.oneCell' = true) ∧
    (∀ b, sa = some b → ∀ j u, L.flatten[j]? = some u → c (b.add j) = some u) ∧ (sa = none → L = []) ∧ ∀ i, i < l.length → ∃ wv, L.getD i [] = stepCells (l.getD i st0) wv ∧ WtsIn c wv (l.getD i st0).wts := by
  obtain ⟨a, n', e, h1, h2, h3⟩ := h
  cases e
  have h4 : ∀ i : Nat, ∃ wv, i < l.length → ∃ b o, sa = some ⟨b, o, none⟩ ∧ StepIn c b (o + i * 4) wv (l.getD i st0) := fun i => by
    by_cases hi : i < l.length
    · obtain ⟨b, o, wv, e, hc⟩ := h3 i hi
      exact ⟨wv, fun _ => ⟨b, o, e, hc⟩⟩
    · exact ⟨undef, fun h => absurd h hi⟩
  obtain ⟨f, hf⟩ := Classical.axiomOfChoice h4
  have hlen : ((List.range l.length).map fun i => stepCells (l.getD i st0) (f i)).length = l.length := by simp
  have hget : ∀ i, i < l.length → ((List.range l.length).map fun i => stepCells (l.getD i st0) (f i)).getD i [] = stepCells (l.getD i st0) (f i) := fun i hi => by
    rw [List.getD_eq_getElem?_getD, List.getElem?_map, List.getElem?_range hi]; rfl
  have hfour : ∀ r ∈ (List.range l.length).map (fun i => stepCells (l.getD i st0) (f i)), r.length = 4 := fun r hr => by
    obtain ⟨i, -, rfl⟩ := List.mem_map.1 hr; rfl
  refine ⟨(List.range l.length).map fun i => stepCells (l.getD i st0) (f i), hlen, hfour, fun u hu => ?_, fun b hb j u hj => ?_, fun hn => ?_, fun i hi => ⟨f i, hget i hi, ?_⟩⟩
  · obtain ⟨r, hr, hur⟩ := List.mem_flatten.1 hu
    obtain ⟨i, hi, rfl⟩ := List.mem_map.1 hr
    obtain ⟨b, o, -, h⟩ := hf i (List.mem_range.1 hi)
    obtain ⟨wa, wc, e, -⟩ := h.2.2.2.2
    rw [e] at hur
    simp [stepCells] at hur
    rcases hur with rfl | rfl | rfl | rfl <;> rfl
  · have hjl : j < l.length * 4 := by
      have := flat_len hfour
      rw [hlen] at this
      have h5 := (List.getElem?_eq_some_iff.1 hj).1
      omega
    have hd : j / 4 < l.length := by omega
    have e : j / 4 * 4 + j % 4 = j := by omega
    rw [← e, flat_get hfour _ _ (by omega), hget _ hd] at hj
    obtain ⟨b', o, hb', c0, c1, c2, c3, -⟩ := hf _ hd
    rw [hb] at hb'; cases hb'
    have ea : (⟨b', o, none⟩ : Addr).add j = ⟨b', o + j / 4 * 4 + j % 4, none⟩ := by
      rw [Nat.add_assoc, e]
      by_cases h0 : j = 0
      · subst h0; simp [Addr.add]
      · simp [Addr.add, h0]
    rw [ea]
    have h6 : j % 4 < 4 := by omega
    rcases hm : j % 4 with _ | _ | _ | _ | m
    all_goals first | (rw [hm] at hj; simp [stepCells] at hj; subst hj; assumption) | omega
  · cases l with
    | nil => rfl
    | cons x t => obtain ⟨b, o, wv, e, -⟩ := h3 0 (by simp); rw [hn] at e; cases e
  · obtain ⟨b, o, -, h⟩ := hf i hi; exact h.2.2.2.2
/-- the cells of weights that lie anywhere -/
theorem wts_list {c : Rd} {wv : Value} {ws : List (Int × Int)} (h : WtsIn c wv ws) : ∃ a n, wv = .slice a ws.length n ∧ (∀ b, a = some b → ∀ j u, (ws.map wtCells).flatten[j]? = some u → c (b.add j) = some u) ∧ (a = none → ws.map wtCells = []) := by
  obtain ⟨a, n, e, h1, h2, h3⟩ := h
  have htwo : ∀ r ∈ ws.map wtCells, r.length = 2 := fun r hr => by obtain ⟨p, -, rfl⟩ := List.mem_map.1 hr; rfl
  refine ⟨a, n, e, fun b hb j u hj => ?_, fun hn => ?_⟩
  · have hjl : j < ws.length * 2 := by
      have := flat_len htwo
      rw [List.length_map] at this
      have h5 := (List.getElem?_eq_some_iff.1 hj).1
      omega
    have hd : j / 2 < ws.length := by omega
    have e : j / 2 * 2 + j % 2 = j := by omega
    have hget : (ws.map wtCells).getD (j / 2) [] = wtCells (ws.getD (j / 2) (0, 0)) := by
      rw [List.getD_eq_getElem?_getD, List.getElem?_map, List.getElem?_eq_getElem hd, List.getD_eq_getElem?_getD, List.getElem?_eq_getElem hd]; rfl
    rw [← e, flat_get htwo _ _ (by omega), hget] at hj
    obtain ⟨b', o, hb', c0, c1⟩ := h3 _ hd
    rw [hb] at hb'; cases hb'
    have ea : (⟨b', o, none⟩ : Addr).add j = ⟨b', o + j / 2 * 2 + j % 2, none⟩ := by
      rw [Nat.add_assoc, e]
      by_cases h0 : j = 0
      · subst h0; simp [Addr.add]
      · simp [Addr.add, h0]
    rw [ea]
    have h6 : j % 2 < 2 := by omega
    rcases hm : j % 2 with _ | _ | m
    all_goals first | (rw [hm] at hj; simp [wtCells] at hj; subst hj; assumption) | omega
  · cases ws with
    | nil => rfl
    | cons x t => obtain ⟨b, o, e, -⟩ := h3 0 (by simp); rw [hn] at e; cases e
theorem wts_two (ws : List (Int × Int)) : (∀ r ∈ ws.map wtCells, r.length = 2) ∧ ∀ u ∈ (ws.map wtCells).flatten, u.oneCell' = true := by
  refine ⟨fun r hr => by obtain ⟨p, -, rfl⟩ := List.mem_map.1 hr; rfl, fun u hu => ?_⟩
  obtain ⟨r, hr, hur⟩ := List.mem_flatten.1 hu
  obtain ⟨p, -, rfl⟩ := List.mem_map.1 hr
  simp [wtCells] at hur
  rcases hur with rfl | rfl <;> rfl
theorem own_wts {W : World} {B : Nat} {wv : Value} {ws : List (Int × Int)} (h : OwnR W B 56 2 wv (ws.map wtCells)) : WtsIn W.cell? wv ws := by
  rcases h.form with ⟨rfl, e2⟩ | ⟨g, c, cur, rfl, e1, e2, e3, e4⟩
  · have : ws = [] := by simpa using e2
    subst this; exact WtsIn.empty _
  · rw [List.length_map] at e3 ⊢
    refine ⟨some ⟨g, 0, none⟩, c, rfl, e3, by unfold maxLen at e4; omega, fun k hk => ⟨g, 0, rfl, ?_, ?_⟩⟩
    all_goals
      have hget : (ws.map wtCells).getD k [] = wtCells (ws.getD k (0, 0)) := by
        rw [List.getD_eq_getElem?_getD, List.getElem?_map, List.getElem?_eq_getElem hk, List.getD_eq_getElem?_getD, List.getElem?_eq_getElem hk]; rfl
      rw [Nat.zero_add]
    · have := h.cell k 0 (by simpa using hk) (by omega) (by rw [hget]; rfl)
      simpa using this
    · have := h.cell k 1 (by simpa using hk) (by omega) (by rw [hget]; rfl)
      simpa using this
end Go.Proofs.Ytppfdjjhloaopaa
namespace Go.Proofs.Ytppfdjjhloaopaa
open Go.RowKit

def OkL (M : Nat) (l : List StepD) : Prop := ∀ s ∈ l, s.wts.length ≤ M ∧ ∀ p ∈ s.wts, -1 ≤ p.2 ∧ p.2 ≤ 1003
def BentQ (M : Nat) (l : List StepD) (w : World) (e : Ending) (w' : World) : Prop :=
  ∃ v l', e = .returned v ∧ StepsIn w'.cell? v l' ∧ Below w.heap.size w w' ∧ l'.length ≤ l.length ∧ (0 < l.length → 0 < l'.length) ∧ OkL (M + 1) l'
/-- a copy of the steps l, of which step k is st, with weights of its own -/
def BS (d : Nat) (w W : World) (g c k : Nat) (l : List StepD) (st : StepD) (wv : Value) : Prop :=
  ∃ L, OwnR W (w.heap.size + d) 54 4 (.slice (some ⟨g, 0, none⟩) l.length c) L ∧ L.length = l.length ∧ L.getD k [] = stepCells st wv ∧ OwnR W (w.heap.size + d) 56 2 wv (st.wts.map wtCells) ∧
    (∀ i, i < l.length → i ≠ k → ∃ wv, L.getD i [] = stepCells (l.getD i st0) wv ∧ WtsIn w.cell? wv (l.getD i st0).wts) ∧ Below w.heap.size w W
theorem BS.later {w W W' : World} {d g c k : Nat} {l : List StepD} {st : StepD} {wv : Value} (h : BS d w W g c k l st wv) (hb : Below W.heap.size W W') : BS d w W' g c k l st wv := by
  obtain ⟨L, h1, h2, h3, h4, h5, h6⟩ := h
  exact ⟨L, h1.later' hb, h2, h3, h4.later' hb, h5, below2 h6 hb⟩
theorem BS.cell {w W : World} {d g c k : Nat} {l : List StepD} {st : StepD} {wv : Value} (h : BS d w W g c k l st wv) (hk : k < l.length) (j : Nat) (hj : j < 4) {u : Value} (hu : (stepCells st wv)[j]? = some u) : W.cell? ⟨g, k * 4 + j, none⟩ = some u := by
  obtain ⟨L, h1, h2, h3, -⟩ := h
  exact h1.cell k j (by omega) hj (by rw [h3]; exact hu)
theorem BS.frozen {w W : World} {d g c k : Nat} {l : List StepD} {st : StepD} {wv : Value} (h : BS d w W g c k l st wv) (j : Nat) : W.frozen? ⟨g, j, none⟩ = false := by
  obtain ⟨L, h1, h2, -⟩ := h
  rw [← h2] at h1
  exact h1.frozen j
/-- a slice of records of another type stands as it was -/
theorem OwnR.setT {W : World} {B B' g n c j k k' : Nat} {e t : TypeId} {v : Value} {L L' : List (List Value)} (h : OwnR W B e k v L) (hO : OwnR W B' t k' (.slice (some ⟨g, 0, none⟩) n c) L') (hte : t ≠ e) (u : Value) : OwnR (W.setCell ⟨g, j, none⟩ u) B e k v L := by
  obtain ⟨⟨h1, h2⟩, h3⟩ := h
  rcases hO.form with ⟨e1, -⟩ | ⟨g', c', cur', e1, -, e3', -⟩
  · cases e1
  · cases e1
    refine ⟨⟨h1, h2.imp id ?_⟩, h3⟩
    rintro ⟨g2, cap, cur, e1, e2, e3, e4⟩
    refine ⟨g2, cap, cur, e1, e2, ?_, e4⟩
    refine (Below.heap_setCell W ⟨g, j, none⟩ u g2 ?_).trans e3
    show g2 ≠ g
    rintro rfl
    have := e3.symm.trans e3'
    simp at this; exact hte this.2.symm
theorem BS.put {w W : World} {d g c k : Nat} {l : List StepD} {st st' : StepD} {wv : Value} (h : BS d w W g c k l st wv) (hk : k < l.length) (j : Nat) (hj : j < 4) (u : Value) (hc : (stepCells st wv).set j u = stepCells st' wv) (hw : st'.wts = st.wts) : BS d w (W.setCell ⟨g, k * 4 + j, none⟩ u) g c k l st' wv := by
  obtain ⟨L, h1, h2, h3, h4, h5, h6⟩ := h
  have hB : w.heap.size ≤ g := by
    rcases h1.form with ⟨e1, -⟩ | ⟨g', c', cur', e1, e2, -⟩
    · cases e1
    · injection e1 with h7 _ _; injection h7 with h7; injection h7 with h7; rw [h7]; omega
  have h1' : OwnR W (w.heap.size + d) 54 4 (.slice (some ⟨g, 0, none⟩) L.length c) L := by rw [h2]; exact h1
  have h7 := h1'.set k j (by omega) hj u
  refine ⟨_, by rw [h2] at h7; exact h7, by simp [h2], ?_, by rw [hw]; exact h4.setT h1 (by decide) u, fun i hi hik => ?_, h6.setCell (p := ⟨g, k * 4 + j, none⟩) hB u⟩
  · rw [getD_set_eq' _ (by omega), h3, hc]
  · rw [getD_set_ne' _ hik]; exact h5 i hi hik
theorem BS.steps {w W : World} {d g c k : Nat} {l : List StepD} {st : StepD} {wv : Value} (h : BS d w W g c k l st wv) (hk : k < l.length) : StepsIn W.cell? (.slice (some ⟨g, 0, none⟩) l.length c) (l.set k st) := by
  obtain ⟨L, h1, h2, h3, h4, h5, h6⟩ := h
  have hcap : l.length ≤ c ∧ c ≤ 9223372036854775807 := by
    rcases h1.form with ⟨e1, -⟩ | ⟨g', c', cur', e1, e2, e3, e4, e5⟩
    · cases e1
    · injection e1 with _ _ h8
      unfold maxLen at e5
      omega
  refine ⟨some ⟨g, 0, none⟩, c, by rw [List.length_set], by rw [List.length_set]; exact hcap.1, hcap.2, fun i hi => ?_⟩
  rw [List.length_set] at hi
  have hcell : ∀ (s : StepD) (wv' : Value), L.getD i [] = stepCells s wv' → ∀ (j : Nat) (u : Value), j < 4 → (stepCells s wv')[j]? = some u → W.cell? ⟨g, i * 4 + j, none⟩ = some u := fun s wv' e j u hj hu => h1.cell i j (by omega) hj (by rw [e]; exact hu)
  by_cases hik : i = k
  · subst hik
    rw [getD_set_eq' _ hk]
    have hc := hcell st wv h3
    refine ⟨g, 0, wv, rfl, ?_, ?_, ?_, ?_, own_wts h4⟩ <;> rw [Nat.zero_add]
    · simpa using hc 0 _ (by omega) rfl
    · exact hc 1 _ (by omega) rfl
    · exact hc 2 _ (by omega) rfl
    · exact hc 3 _ (by omega) rfl
  · rw [getD_set_ne' _ hik]
    obtain ⟨wv', e, hW⟩ := h5 i hi hik
    have hc := hcell _ wv' e
    refine ⟨g, 0, wv', rfl, ?_, ?_, ?_, ?_, hW.keeps (keeps_of_below h6)⟩ <;> rw [Nat.zero_add]
    · simpa using hc 0 _ (by omega) rfl
    · exact hc 1 _ (by omega) rfl
    · exact hc 2 _ (by omega) rfl
    · exact hc 3 _ (by omega) rfl
theorem BS.ne {w W : World} {g c k : Nat} {l : List StepD} {st : StepD} {wv : Value} (h : BS 1 w W g c k l st wv) : w.heap.size < g := by
  obtain ⟨L, h1, -⟩ := h
  rcases h1.form with ⟨e1, -⟩ | ⟨g', c', cur', e1, e2, -⟩
  · cases e1
  · injection e1 with h7 _ _; injection h7 with h7; injection h7 with h7; rw [h7]; omega
theorem BS.make {w W : World} {d g c k : Nat} {l : List StepD} {L : List (List Value)} {v5 : Value} (h1 : OwnR W (w.heap.size + d) 54 4 (.slice (some ⟨g, 0, none⟩) l.length c) L) (h2 : L.length = l.length) (hk : k < l.length)
    (h3 : ∀ i, i < l.length → ∃ wv, L.getD i [] = stepCells (l.getD i st0) wv ∧ WtsIn w.cell? wv (l.getD i st0).wts) (h4 : OwnR W (w.heap.size + d) 56 2 v5 ((l.getD k st0).wts.map wtCells)) (h6 : Below w.heap.size w W) :
    BS d w (W.setCell ⟨g, k * 4 + 3, none⟩ v5) g c k l (l.getD k st0) v5 := by
  have hB : w.heap.size ≤ g := by
    rcases h1.form with ⟨e1, -⟩ | ⟨g', c', cur', e1, e2, -⟩
    · cases e1
    · injection e1 with h7 _ _; injection h7 with h7; injection h7 with h7; rw [h7]; omega
  have h1' : OwnR W (w.heap.size + d) 54 4 (.slice (some ⟨g, 0, none⟩) L.length c) L := by rw [h2]; exact h1
  have h7 := h1'.set k 3 (by omega) (by omega) v5
  refine ⟨_, by rw [h2] at h7; exact h7, by simp [h2], ?_, h4.setT h1 (by decide) v5, fun i hi hik => ?_, h6.setCell (p := ⟨g, k * 4 + 3, none⟩) hB v5⟩
  · obtain ⟨wv, e, -⟩ := h3 k hk
    rw [getD_set_eq' _ (by omega), e]; rfl
  · rw [getD_set_ne' _ hik]; exact h3 i hi
theorem BS.hb {w W : World} {d g c k : Nat} {l : List StepD} {st : StepD} {wv : Value} (h : BS d w W g c k l st wv) : Below w.heap.size w W := by
  obtain ⟨L, h1, h2, h3, h4, h5, h6⟩ := h; exact h6
theorem BS.wts {w W : World} {d g c k : Nat} {l : List StepD} {st : StepD} {wv : Value} (h : BS d w W g c k l st wv) : OwnR W (w.heap.size + d) 56 2 wv (st.wts.map wtCells) := by
  obtain ⟨L, h1, h2, h3, h4, h5, h6⟩ := h; exact h4
/-- a weight of the step's own is changed -/
theorem BS.putW {w W : World} {d g c k g5 c5 : Nat} {l : List StepD} {st st' : StepD} (h : BS d w W g c k l st (.slice (some ⟨g5, 0, none⟩) st.wts.length c5)) (j : Nat) (hj : j < 2) (hl : 0 < st.wts.length) (u : Value)
    (hs : st'.var = st.var ∧ st'.no = st.no ∧ st'.yes = st.yes) (hw : (st.wts.map wtCells).set 0 (((st.wts.map wtCells).getD 0 []).set j u) = st'.wts.map wtCells) : BS d w (W.setCell ⟨g5, j, none⟩ u) g c k l st' (.slice (some ⟨g5, 0, none⟩) st.wts.length c5) := by
  obtain ⟨L, h1, h2, h3, h4, h5, h6⟩ := h
  have hB : w.heap.size ≤ g5 := by
    rcases h4.form with ⟨e1, -⟩ | ⟨g', c', cur', e1, e2, -⟩
    · cases e1
    · injection e1 with h7 _ _; injection h7 with h7; injection h7 with h7; rw [h7]; omega
  have h4' : OwnR W (w.heap.size + d) 56 2 (.slice (some ⟨g5, 0, none⟩) (st.wts.map wtCells).length c5) (st.wts.map wtCells) := by rw [List.length_map]; exact h4
  have h7 := h4'.set 0 j (by rw [List.length_map]; exact hl) hj u
  rw [hw, List.length_map, Nat.zero_mul, Nat.zero_add] at h7
  refine ⟨L, h1.setT h4 (by decide) u, h2, ?_, h7, h5, h6.setCell (p := ⟨g5, j, none⟩) hB u⟩
  rw [h3]; unfold stepCells; rw [hs.1, hs.2.1, hs.2.2]
theorem OkL.set {M : Nat} {l : List StepD} (h : OkL M l) (k : Nat) {st : StepD} (h1 : st.wts.length ≤ M + 1) (h2 : ∀ p ∈ st.wts, -1 ≤ p.2 ∧ p.2 ≤ 1003) : OkL (M + 1) (l.set k st) := fun s hs => by
  rcases List.mem_or_eq_of_mem_set hs with h3 | rfl
  · exact ⟨by have := (h s h3).1; omega, (h s h3).2⟩
  · exact ⟨h1, h2⟩
end Go.Proofs.Ytppfdjjhloaopaa
