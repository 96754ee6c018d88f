/- The walk of the reference's Bent: it returns some laws. Conditions: how the laws lie in memory; sizes; that integers are of 64 bits. -/
import Derived.Test.YtdjldidfnddpmaaGreatSkB
namespace Go.Proofs.YtdjldidfnddpmaaGreat
open Go.RowKit
theorem made_terms31 (x : NumsD) : ∀ z ∈ (madeC x).clauses, z.needs.length ≤ 3 ∧ z.bars.length ≤ 3 := fun z hz => by
  obtain ⟨y, -, rfl⟩ := List.mem_map.1 hz
  exact ⟨bitsK_len _ _, bitsK_len _ _⟩
theorem own_some' {w : World} {B k n : Nat} {a : Option Addr} {e : TypeId} {c : Nat} {L : List (List Value)} (h : OwnR w B e k (.slice a n c) L) (h0 : 0 < L.length) : ∃ g, a = some ⟨g, 0, none⟩ ∧ B ≤ g ∧ g < w.heap.size := by
  rcases h.form with ⟨-, e2⟩ | ⟨g, c', cur, e1, e2, e3, -⟩
  · rw [e2] at h0; simp at h0
  · cases e1; exact ⟨g, rfl, e2, (Array.getElem?_eq_some_iff.1 e3).1⟩
theorem ClausesOwn.setO {W : World} {A B O j : Nat} {t : TypeId} {v : Value} {l : List ClauseD} {vs : List Value} (h : ClausesOwn W A B v l) (hO : Blk W O vs t) (h1 : t ≠ 67) (h2 : t ≠ 3) (u : Value) : ClausesOwn (W.setCell ⟨O, j, none⟩ u) A B v l := by
  obtain ⟨L', k1, k2, k3⟩ := h
  exact ⟨L', k1.setO hO h1 u, k2, fun i hi => let ⟨nv, bv, e, hn, hb⟩ := k3 i hi; ⟨nv, bv, e, hn.keeps (keeps_frmY_set hO h2 j u), hb.keeps (keeps_frmY_set hO h2 j u)⟩⟩
theorem CodeOwn.setO {W : World} {A B O j : Nat} {vs : List Value} {cv rv fv : Value} {c : CodeD} (h : CodeOwn W A B cv rv fv c) (hO : Blk W O vs 30) (u : Value) : CodeOwn (W.setCell ⟨O, j, none⟩ u) A B cv rv fv c :=
  ⟨h.cl.setO hO (by decide) (by decide) u, h.re.setO hO (by decide) u, h.fa.setO hO (by decide) u⟩
theorem CodeOwn.putRe {W : World} {A B g n : Nat} {cv fv : Value} {c : CodeD} (h : CodeOwn W A B cv (.slice (some ⟨g, 0, none⟩) c.repeals.length n) fv c) {k : Nat} (hk : k < c.repeals.length) (j : Nat) (hj : j < 3) (u : Value) (x : RepealD) (hx : (repealC (c.repeals.getD k repeal0)).set j u = repealC x) :
    CodeOwn (W.setCell ⟨g, k * 3 + j, none⟩ u) A B cv (.slice (some ⟨g, 0, none⟩) c.repeals.length n) fv { c with repeals := c.repeals.set k x } :=
  ⟨h.cl.setT h.re (by decide) (by decide) u, own_putR h.re hk j hj u x hx, h.fa.setT h.re (by decide) u⟩
theorem CodeOwn.putFa {W : World} {A B g n : Nat} {cv rv : Value} {c : CodeD} (h : CodeOwn W A B cv rv (.slice (some ⟨g, 0, none⟩) c.facts.length n) c) {k : Nat} (hk : k < c.facts.length) (j : Nat) (hj : j < 6) (u : Value) (x : FactD) (hx : (factC (c.facts.getD k fact0)).set j u = factC x) :
    CodeOwn (W.setCell ⟨g, k * 6 + j, none⟩ u) A B cv rv (.slice (some ⟨g, 0, none⟩) c.facts.length n) { c with facts := c.facts.set k x } :=
  ⟨h.cl.setT h.fa (by decide) (by decide) u, h.re.setT h.fa (by decide) u, own_putR h.fa hk j hj u x hx⟩
theorem rec_at {α : Type} {f : α → List Value} {d : α} {W : World} {B g n k kk : Nat} {t : TypeId} {l : List α} (h : OwnR W B t kk (.slice (some ⟨g, 0, none⟩) n k) (l.map f)) (hkk : ∀ x, (f x).length = kk) {i : Nat} (hi : i < l.length) (j : Nat) (hj : j < kk) : W.frozen? ⟨g, i * kk + j, none⟩ = false ∧ ∃ v, W.cell? ⟨g, i * kk + j, none⟩ = some v := by
  have hn : n = (l.map f).length := by
    rcases h.form with ⟨e1, -⟩ | ⟨g', c', cur', e1, -⟩
    · cases e1
    · cases e1; rfl
  subst hn
  have hi' : (l.map f).getD i [] = f (l.getD i d) := by
    rw [List.getD_eq_getElem?_getD, List.getElem?_map, List.getElem?_eq_getElem hi, List.getD_eq_getElem?_getD, List.getElem?_eq_getElem hi]; rfl
  exact ⟨h.frozen _, (f (l.getD i d))[j]'(by rw [hkk]; exact hj), h.cell i j (by rw [List.length_map]; exact hi) hj (by rw [hi']; exact List.getElem?_eq_getElem _)⟩
theorem blk_six {W : World} {b g o : Nat} {vs : List Value} {t : TypeId} {u0 u1 u2 u3 u4 u5 : Value} (h : Blk W b vs t) (hn : b ≠ g) :
    Blk ((((((W.setCell ⟨g, o, none⟩ u0).setCell ⟨g, o + 1, none⟩ u1).setCell ⟨g, o + 2, none⟩ u2).setCell ⟨g, o + 3, none⟩ u3).setCell ⟨g, o + 4, none⟩ u4).setCell ⟨g, o + 5, none⟩ u5) b vs t :=
  (((((h.other hn _ _).other hn _ _).other hn _ _).other hn _ _).other hn _ _).other hn _ _
theorem below_six {w W : World} {g o : Nat} {u0 u1 u2 u3 u4 u5 : Value} (h : Below w.heap.size w W) (hg : w.heap.size ≤ g) :
    Below w.heap.size w ((((((W.setCell ⟨g, o, none⟩ u0).setCell ⟨g, o + 1, none⟩ u1).setCell ⟨g, o + 2, none⟩ u2).setCell ⟨g, o + 3, none⟩ u3).setCell ⟨g, o + 4, none⟩ u4).setCell ⟨g, o + 5, none⟩ u5) :=
  (((((h.setCell (p := ⟨g, o, none⟩) hg _).setCell (p := ⟨g, o + 1, none⟩) hg _).setCell (p := ⟨g, o + 2, none⟩) hg _).setCell (p := ⟨g, o + 3, none⟩) hg _).setCell (p := ⟨g, o + 4, none⟩) hg _).setCell (p := ⟨g, o + 5, none⟩) hg _
theorem own_of_blk {W : World} {B g n c k : Nat} {e : TypeId} {L : List (List Value)} (hO : OwnR W B e k (.slice (some ⟨g, 0, none⟩) n c) L) : ∃ vs, Blk W g vs e := by
  rcases hO.form with ⟨e1, -⟩ | ⟨g', c', cur', e1, -, e3', -⟩
  · cases e1
  · cases e1
    exact ⟨cur'.toList, by show W.heap[g]? = _; rw [e3']⟩
theorem OwnR.six6 {W : World} {A B B' g n c k o : Nat} {e : TypeId} {v : Value} {L : List (List Value)} {l : List ClauseD} {u0 u1 u2 u3 u4 u5 : Value} (h : OwnR W B e k v L) (hO : ClausesOwn W A B' (.slice (some ⟨g, 0, none⟩) n c) l) (hte : 67 ≠ e) :
    OwnR ((((((W.setCell ⟨g, o, none⟩ u0).setCell ⟨g, o + 1, none⟩ u1).setCell ⟨g, o + 2, none⟩ u2).setCell ⟨g, o + 3, none⟩ u3).setCell ⟨g, o + 4, none⟩ u4).setCell ⟨g, o + 5, none⟩ u5) B e k v L := by
  obtain ⟨L0, hL0, -, -⟩ := hO
  obtain ⟨vs, b0⟩ := own_of_blk hL0
  have b1 := b0.set o u0
  have b2 := b1.set (o + 1) u1
  have b3 := b2.set (o + 2) u2
  have b4 := b3.set (o + 3) u3
  have b5 := b4.set (o + 4) u4
  exact (((((h.setO b0 hte _).setO b1 hte _).setO b2 hte _).setO b3 hte _).setO b4 hte _).setO b5 hte _
theorem clauses_six {W : World} {A B g c : Nat} {l : List ClauseD} (h : ClausesOwn W A B (.slice (some ⟨g, 0, none⟩) l.length c) l) {k : Nat} (hk : k < l.length) :
    W.frozen? ⟨g, k * 6, none⟩ = false ∧ W.frozen? ⟨g, k * 6 + 1, none⟩ = false ∧ W.frozen? ⟨g, k * 6 + 2, none⟩ = false ∧ W.frozen? ⟨g, k * 6 + 3, none⟩ = false ∧ W.frozen? ⟨g, k * 6 + 4, none⟩ = false ∧ W.frozen? ⟨g, k * 6 + 5, none⟩ = false ∧
    ∃ v0 v1 v2 v3 v4 v5, W.cell? ⟨g, k * 6, none⟩ = some v0 ∧ W.cell? ⟨g, k * 6 + 1, none⟩ = some v1 ∧ W.cell? ⟨g, k * 6 + 2, none⟩ = some v2 ∧ W.cell? ⟨g, k * 6 + 3, none⟩ = some v3 ∧ W.cell? ⟨g, k * 6 + 4, none⟩ = some v4 ∧ W.cell? ⟨g, k * 6 + 5, none⟩ = some v5 := by
  obtain ⟨L, hOR, hl, -⟩ := id h
  rw [← hl] at hOR
  obtain ⟨g', na, nn, ba, bn, e, -, -, hc⟩ := clauses_rec h hk
  cases e
  exact ⟨hOR.frozen _, hOR.frozen _, hOR.frozen _, hOR.frozen _, hOR.frozen _, hOR.frozen _, _, _, _, _, _, _, hc 0 _ rfl, hc 1 _ rfl, hc 2 _ rfl, hc 3 _ rfl, hc 4 _ rfl, hc 5 _ rfl⟩
set_option maxRecDepth 100000 in
set_option maxHeartbeats 4000000 in
theorem bentr_any (c : CodeD) (cv rv fv : Value) (how n at_ : Int) (w : World) (h : CodeIn w.cell? cv rv fv c) (hl : c.clauses.length ≤ 8 ∧ c.repeals.length ≤ 3 ∧ c.facts.length ≤ 8) (hm : ∀ z ∈ c.clauses, z.needs.length ≤ 3 ∧ z.bars.length ≤ 3) (hh : i64B how) (ha : i64B at_) :
    Calls Tryz.prog 6 #[codeV cv rv fv, .int .i64 how, .int .i64 n, .int .i64 at_] w (SomeCodeQ w) := by
  have HCI := hide h
  have HM := hide hm
  have HL := hide hl
  obtain ⟨⟨ca, cn, rfl, -, -, -⟩, ⟨ra, rn, rfl, -, -, -⟩, ⟨fa, fn, rfl, -, -, -⟩⟩ := id h
  have HP8 := hide (fun W => pickr_any how 8 W hh.1 hh.2 (by decide) (by decide))
  have HPC := hide (fun (m : Nat) W (h0 : 0 < m) (h1 : m ≤ 8) => pickr_any at_ m W ha.1 ha.2 (by omega) (by omega))
  obtain ⟨h80, h81⟩ := pkF_bd (n := 8) (by decide) how
  have HKB := hide (fun (m : Nat) (h0 : 0 < m) => pkF_bd (n := (m : Int)) (by omega) at_)
  generalize pkF how 8 = p at *
  generalize hpk : pkF at_ = pk at *
  clear h hm hl hh ha hpk
  go_enter Tryz.func6, Tryz.ntmps6
  go_wp2_with fail
  generalize hX1 : World.alloc w _ = X1
  have zX1 : X1.heap.size = w.heap.size + 1 := by rw [← hX1]; simp
  have bX1 : Below w.heap.size w X1 := by rw [← hX1]; exact bal w _
  have bI_1 : Blk X1 (w.heap.size) [.slice ca c.clauses.length cn, .slice ra c.repeals.length rn, .slice fa c.facts.length fn] 30 := by rw [← hX1]; exact Blk.newA w _ (by first | rfl | simp)
  generalize hX2 : World.alloc X1 _ = X2
  have zX2 : X2.heap.size = w.heap.size + 1 + 1 := by rw [← hX2]; simp [zX1]
  have bX2 : Below X1.heap.size X1 X2 := by rw [← hX2]; exact bal X1 _
  have bR : Blk X2 (w.heap.size + 1) [.slice none 0 0, .slice none 0 0, .slice none 0 0] 30 := by rw [← hX2, ← zX1]; exact Blk.newA X1 _ (by first | rfl | simp)
  have bI := bI_1.later bX2
  have Xb := below2 (bX1) bX2
  have Xz := zX2
  clear hX1 zX1 bX1 hX2 zX2 bX2 bI_1
  have i0 := bI.cell 0 rfl
  have i1 := bI.cell 1 rfl
  have i2 := bI.cell 2 rfl
  go_wp2_with fail
  obtain ⟨hl1, hl2, hl3⟩ := HL.out
  refine (copyr_any c _ _ _ _ (HCI.out.below Xb) (by omega) (by omega) (by omega) (fun z hz => by have := HM.out z hz; omega)).mono ?_
  rintro e w1 ⟨cv2, rv2, fv2, B, rfl, hB1, hB2, hco, hb1⟩
  have hw1 := below2 Xb hb1
  replace bR := bR.later hb1
  obtain ⟨ca2, cn2, rfl⟩ := hco.cl.form
  obtain ⟨ra2, rn2, rfl⟩ := own_form hco.re
  obtain ⟨fa2, fn2, rfl⟩ := own_form hco.fa
  simp only [List.length_map] at hco ⊢
  clear i0 i1 i2 bI hb1 Xb
  go_upto_region 2 with (fail)
  have hco0 := hco
  generalize hY1 : World.alloc w1 _ = Y1
  have zY1 : Y1.heap.size = w1.heap.size + 1 := by rw [← hY1]; simp
  have bY1 : Below w1.heap.size w1 Y1 := by rw [← hY1]; exact bal w1 _
  have bO : Blk Y1 (w1.heap.size) [.slice ca2 c.clauses.length cn2, .slice ra2 c.repeals.length rn2, .slice fa2 c.facts.length fn2] 30 := by rw [← hY1]; exact Blk.newA w1 _ (by first | rfl | simp)
  have Yb := bY1
  have Yz := zY1
  clear hY1 zY1 bY1
  replace hco := hco.later Yb
  replace bR := bR.later Yb
  have hw2 := below2 hw1 Yb
  clear hw1 Yb
  have o0 := bO.cell 0 rfl
  have o1 := bO.cell 1 rfl
  have o2 := bO.cell 2 rfl
  go_wp2_with fail
  refine (HP8.out _).mono ?_
  rintro e w3 ⟨rfl, hw⟩; obtain rfl := hw.symm
  obtain ⟨hl1, hl2, hl3⟩ := HL.out
  have hre0 := hco0.re
  have hfa0 := hco0.fa
  have hcl0 := hco0.cl
  have hXY : X2.heap.size ≤ Y1.heap.size := by omega
  by_cases h5 : p < 5
  · have h5' : (p == 5) = false := beq_eq_false_iff_ne.2 (by omega)
    have h6' : (p == 6) = false := beq_eq_false_iff_ne.2 (by omega)
    rcases Nat.eq_zero_or_pos c.clauses.length with hz | hpc
    · have hzd : decide (0 < c.clauses.length) = false := decide_eq_false (by omega)
      clear hz
      rcases Nat.eq_zero_or_pos c.facts.length with hf | hpf
      · have hfd : decide (0 < c.facts.length) = false := decide_eq_false (by omega)
        clear hf
        clear o0 o1 o2
        have bOz := bO
        have bRz := bR
        have hoz := hco
        have hwz := hw2
        have o0 := bOz.cell 0 rfl
        have o1 := bOz.cell 1 rfl
        have o2 := bOz.cell 2 rfl
        have r0 := bRz.cell 0 rfl
        have r1 := bRz.cell 1 rfl
        have r2 := bRz.cell 2 rfl
        have rf0 := bRz.frozen 0
        have rf1 := bRz.frozen 1
        have rf2 := bRz.frozen 2
        have HOZ := hide hoz
        have HWZ := hide hwz
        clear hoz hwz
        go_wp2_with fail
        have q1 := bRz.set 0 (.slice ca2 c.clauses.length cn2)
        have q2 := q1.set 1 (.slice ra2 c.repeals.length rn2)
        have q := q2.set 2 (.slice fa2 c.facts.length fn2)
        have x0 := q.cell 0 rfl
        have x1 := q.cell 1 rfl
        have x2 := q.cell 2 rfl
        refine bodyPost_ret (v := .agg #[.slice ca2 c.clauses.length cn2, .slice ra2 c.repeals.length rn2, .slice fa2 c.facts.length fn2]) (by simp [results, Tryz.results6, go_sem, x0, x1, x2]) rfl ?_
        exact ⟨_, _, _, _, rfl, ((((HOZ.out.setO bRz _).setO q1 _).setO q2 _).at (C := 0) (Nat.zero_le _) (Nat.zero_le _)).keeps (keeps_frm _ _), ((HWZ.out.setCell (p := ⟨w.heap.size + 1, 0, none⟩) (by show w.heap.size ≤ w.heap.size + 1; omega) _).setCell (p := ⟨w.heap.size + 1, 1, none⟩) (by show w.heap.size ≤ w.heap.size + 1; omega) _).setCell (p := ⟨w.heap.size + 1, 2, none⟩) (by show w.heap.size ≤ w.heap.size + 1; omega) _⟩
      · obtain ⟨g, rfl, hg1, hg2⟩ := own_some' hfa0 (by rw [List.length_map]; exact hpf)
        have hgO : w1.heap.size ≠ g := by omega
        have hK := HKB.out _ hpf
        obtain ⟨K, hKe⟩ : ∃ K : Nat, pk c.facts.length = K := ⟨(pk c.facts.length).toNat, by omega⟩
        have hKl : K < c.facts.length := by omega
        have hKI : (K : Int) < c.facts.length := by omega
        have HPK := hide (fun W => HPC.out c.facts.length W hpf (by omega))
        rw [hKe] at HPK
        have HAT := hide (fun W (hb : Below Y1.heap.size Y1 W) => rec_at (hco.fa.later' hb) (fun _ => rfl) (d := fact0) hKl 1 (by decide))
        have HPUT := hide (fun W (hb : Below Y1.heap.size Y1 W) => (hco.later hb).putFa hKl 1 (by decide) (.int .i64 n) { c.facts.getD K fact0 with says := n } rfl)
        clear hK hKe
        go_wp2_with fail
        refine wp_region_inv [some 82, some 83, some 84, some 85, some 86, some 87, some 88, some 89, some 90, some 91, none] (fun L vs W => match vs with | [x0, x1, x2, x3, x4, x5, x6, x7, x8, x9, x10] => (Blk W w1.heap.size [.slice ca2 c.clauses.length cn2, .slice ra2 c.repeals.length rn2, .slice (some ⟨g, 0, none⟩) c.facts.length fn2] 30 ∧ (L 10 = false → Below Y1.heap.size Y1 W)) ∧ (L 0 = true → x0 = .pointer (some ⟨w1.heap.size, 2, none⟩)) ∧ (L 1 = true → x1 = .slice (some ⟨g, 0, none⟩) c.facts.length fn2) ∧ (L 2 = true → x2 = .int .i64 at_) ∧ (L 3 = true → x3 = .pointer (some ⟨w1.heap.size, 2, none⟩)) ∧ (L 4 = true → x4 = .slice (some ⟨g, 0, none⟩) c.facts.length fn2) ∧ (L 5 = true → x5 = .int .i64 c.facts.length) ∧ (L 6 = true → x6 = .int .i64 K) ∧ (L 7 = true → x7 = .int .i64 n) ∧ (L 8 = true → x8 = .pointer (some ⟨g, K * 6, none⟩)) ∧ (L 9 = true → x9 = .pointer (some ⟨g, K * 6 + 1, none⟩)) ∧ (L 10 = true → ∃ Wp, Below Y1.heap.size Y1 Wp ∧ W = Wp.setCell ⟨g, K * 6 + 1, none⟩ (.int .i64 n)) | _ => False) [_, _, _, _, _, _, _, _, _, _, undef] (by kernel_rfl) (by kernel_rfl) rfl (by simp only [puts, Act.put, List.setIfInBounds_toArray, List.set_cons_zero, List.set_cons_succ] <;> rfl) ?_ ?_ ?_
        · exact ⟨⟨bO, fun _ => (Below.refl _ _).drew⟩, (fun h => by cases h), (fun h => by cases h), (fun h => by cases h), (fun h => by cases h), (fun h => by cases h), (fun h => by cases h), (fun h => by cases h), (fun h => by cases h), (fun h => by cases h), (fun h => by cases h), (fun h => by cases h)⟩
        · refine ⟨?_, ?_, ?_, ?_, ?_, ?_, ?_, ?_, ?_, ?_, ?_, trivial⟩
          · intro L vs W hlen hL hD hI K hK
            obtain ⟨x0, x1, x2, x3, x4, x5, x6, x7, x8, x9, x10, rfl⟩ := len11 hlen
            have hG := hI.1
            replace hI := hI.2
            have f0 := hide hI.1
            replace hI := hI.2
            have f1 := hide hI.1
            replace hI := hI.2
            have f2 := hide hI.1
            replace hI := hI.2
            have f3 := hide hI.1
            replace hI := hI.2
            have f4 := hide hI.1
            replace hI := hI.2
            have f5 := hide hI.1
            replace hI := hI.2
            have f6 := hide hI.1
            replace hI := hI.2
            have f7 := hide hI.1
            replace hI := hI.2
            have f8 := hide hI.1
            replace hI := hI.2
            have f9 := hide hI.1
            replace hI := hI.2
            have f10 := hide hI
            clear hI
            try simp only [puts, Act.put, List.setIfInBounds_toArray, List.set_cons_zero, List.set_cons_succ]
            try go_simp
            exact hK.out _ _ _ (by simp only [puts, Act.put, List.setIfInBounds_toArray, List.set_cons_zero, List.set_cons_succ] <;> rfl) ⟨hG, (fun _ => rfl), (fun h => f1.out h), (fun h => f2.out h), (fun h => f3.out h), (fun h => f4.out h), (fun h => f5.out h), (fun h => f6.out h), (fun h => f7.out h), (fun h => f8.out h), (fun h => f9.out h), (fun h => f10.out h)⟩
          · intro L vs W hlen hL hD hI K hK
            obtain ⟨x0, x1, x2, x3, x4, x5, x6, x7, x8, x9, x10, rfl⟩ := len11 hlen
            have hG := hI.1
            replace hI := hI.2
            have f0 := hide hI.1
            replace hI := hI.2
            have f1 := hide hI.1
            replace hI := hI.2
            have f2 := hide hI.1
            replace hI := hI.2
            have f3 := hide hI.1
            replace hI := hI.2
            have f4 := hide hI.1
            replace hI := hI.2
            have f5 := hide hI.1
            replace hI := hI.2
            have f6 := hide hI.1
            replace hI := hI.2
            have f7 := hide hI.1
            replace hI := hI.2
            have f8 := hide hI.1
            replace hI := hI.2
            have f9 := hide hI.1
            replace hI := hI.2
            have f10 := hide hI
            clear hI
            obtain rfl := f0.out (hD.on 0 (by kernel_rfl))
            try simp only [puts, Act.put, List.setIfInBounds_toArray, List.set_cons_zero, List.set_cons_succ]
            have p1 := hG.1.cell 2 rfl
            go_simp
            exact hK.out _ _ _ (by simp only [puts, Act.put, List.setIfInBounds_toArray, List.set_cons_zero, List.set_cons_succ] <;> rfl) ⟨hG, (fun h => f0.out h), (fun _ => rfl), (fun h => f2.out h), (fun h => f3.out h), (fun h => f4.out h), (fun h => f5.out h), (fun h => f6.out h), (fun h => f7.out h), (fun h => f8.out h), (fun h => f9.out h), (fun h => f10.out h)⟩
          · intro L vs W hlen hL hD hI K hK
            obtain ⟨x0, x1, x2, x3, x4, x5, x6, x7, x8, x9, x10, rfl⟩ := len11 hlen
            have hG := hI.1
            replace hI := hI.2
            have f0 := hide hI.1
            replace hI := hI.2
            have f1 := hide hI.1
            replace hI := hI.2
            have f2 := hide hI.1
            replace hI := hI.2
            have f3 := hide hI.1
            replace hI := hI.2
            have f4 := hide hI.1
            replace hI := hI.2
            have f5 := hide hI.1
            replace hI := hI.2
            have f6 := hide hI.1
            replace hI := hI.2
            have f7 := hide hI.1
            replace hI := hI.2
            have f8 := hide hI.1
            replace hI := hI.2
            have f9 := hide hI.1
            replace hI := hI.2
            have f10 := hide hI
            clear hI
            try simp only [puts, Act.put, List.setIfInBounds_toArray, List.set_cons_zero, List.set_cons_succ]
            try go_simp
            exact hK.out _ _ _ (by simp only [puts, Act.put, List.setIfInBounds_toArray, List.set_cons_zero, List.set_cons_succ] <;> rfl) ⟨hG, (fun h => f0.out h), (fun h => f1.out h), (fun _ => rfl), (fun h => f3.out h), (fun h => f4.out h), (fun h => f5.out h), (fun h => f6.out h), (fun h => f7.out h), (fun h => f8.out h), (fun h => f9.out h), (fun h => f10.out h)⟩
          · intro L vs W hlen hL hD hI K hK
            obtain ⟨x0, x1, x2, x3, x4, x5, x6, x7, x8, x9, x10, rfl⟩ := len11 hlen
            have hG := hI.1
            replace hI := hI.2
            have f0 := hide hI.1
            replace hI := hI.2
            have f1 := hide hI.1
            replace hI := hI.2
            have f2 := hide hI.1
            replace hI := hI.2
            have f3 := hide hI.1
            replace hI := hI.2
            have f4 := hide hI.1
            replace hI := hI.2
            have f5 := hide hI.1
            replace hI := hI.2
            have f6 := hide hI.1
            replace hI := hI.2
            have f7 := hide hI.1
            replace hI := hI.2
            have f8 := hide hI.1
            replace hI := hI.2
            have f9 := hide hI.1
            replace hI := hI.2
            have f10 := hide hI
            clear hI
            try simp only [puts, Act.put, List.setIfInBounds_toArray, List.set_cons_zero, List.set_cons_succ]
            try go_simp
            exact hK.out _ _ _ (by simp only [puts, Act.put, List.setIfInBounds_toArray, List.set_cons_zero, List.set_cons_succ] <;> rfl) ⟨hG, (fun h => f0.out h), (fun h => f1.out h), (fun h => f2.out h), (fun _ => rfl), (fun h => f4.out h), (fun h => f5.out h), (fun h => f6.out h), (fun h => f7.out h), (fun h => f8.out h), (fun h => f9.out h), (fun h => f10.out h)⟩
          · intro L vs W hlen hL hD hI K hK
            obtain ⟨x0, x1, x2, x3, x4, x5, x6, x7, x8, x9, x10, rfl⟩ := len11 hlen
            have hG := hI.1
            replace hI := hI.2
            have f0 := hide hI.1
            replace hI := hI.2
            have f1 := hide hI.1
            replace hI := hI.2
            have f2 := hide hI.1
            replace hI := hI.2
            have f3 := hide hI.1
            replace hI := hI.2
            have f4 := hide hI.1
            replace hI := hI.2
            have f5 := hide hI.1
            replace hI := hI.2
            have f6 := hide hI.1
            replace hI := hI.2
            have f7 := hide hI.1
            replace hI := hI.2
            have f8 := hide hI.1
            replace hI := hI.2
            have f9 := hide hI.1
            replace hI := hI.2
            have f10 := hide hI
            clear hI
            obtain rfl := f3.out (hD.on 3 (by kernel_rfl))
            try simp only [puts, Act.put, List.setIfInBounds_toArray, List.set_cons_zero, List.set_cons_succ]
            have p1 := hG.1.cell 2 rfl
            go_simp
            exact hK.out _ _ _ (by simp only [puts, Act.put, List.setIfInBounds_toArray, List.set_cons_zero, List.set_cons_succ] <;> rfl) ⟨hG, (fun h => f0.out h), (fun h => f1.out h), (fun h => f2.out h), (fun h => f3.out h), (fun _ => rfl), (fun h => f5.out h), (fun h => f6.out h), (fun h => f7.out h), (fun h => f8.out h), (fun h => f9.out h), (fun h => f10.out h)⟩
          · intro L vs W hlen hL hD hI K hK
            obtain ⟨x0, x1, x2, x3, x4, x5, x6, x7, x8, x9, x10, rfl⟩ := len11 hlen
            have hG := hI.1
            replace hI := hI.2
            have f0 := hide hI.1
            replace hI := hI.2
            have f1 := hide hI.1
            replace hI := hI.2
            have f2 := hide hI.1
            replace hI := hI.2
            have f3 := hide hI.1
            replace hI := hI.2
            have f4 := hide hI.1
            replace hI := hI.2
            have f5 := hide hI.1
            replace hI := hI.2
            have f6 := hide hI.1
            replace hI := hI.2
            have f7 := hide hI.1
            replace hI := hI.2
            have f8 := hide hI.1
            replace hI := hI.2
            have f9 := hide hI.1
            replace hI := hI.2
            have f10 := hide hI
            clear hI
            obtain rfl := f4.out (hD.on 4 (by kernel_rfl))
            try simp only [puts, Act.put, List.setIfInBounds_toArray, List.set_cons_zero, List.set_cons_succ]
            try go_simp
            exact hK.out _ _ _ (by simp only [puts, Act.put, List.setIfInBounds_toArray, List.set_cons_zero, List.set_cons_succ] <;> rfl) ⟨hG, (fun h => f0.out h), (fun h => f1.out h), (fun h => f2.out h), (fun h => f3.out h), (fun h => f4.out h), (fun _ => rfl), (fun h => f6.out h), (fun h => f7.out h), (fun h => f8.out h), (fun h => f9.out h), (fun h => f10.out h)⟩
          · intro L vs W hlen hL hD hI K hK
            obtain ⟨x0, x1, x2, x3, x4, x5, x6, x7, x8, x9, x10, rfl⟩ := len11 hlen
            have hG := hI.1
            replace hI := hI.2
            have f0 := hide hI.1
            replace hI := hI.2
            have f1 := hide hI.1
            replace hI := hI.2
            have f2 := hide hI.1
            replace hI := hI.2
            have f3 := hide hI.1
            replace hI := hI.2
            have f4 := hide hI.1
            replace hI := hI.2
            have f5 := hide hI.1
            replace hI := hI.2
            have f6 := hide hI.1
            replace hI := hI.2
            have f7 := hide hI.1
            replace hI := hI.2
            have f8 := hide hI.1
            replace hI := hI.2
            have f9 := hide hI.1
            replace hI := hI.2
            have f10 := hide hI
            clear hI
            obtain rfl := f2.out (hD.on 2 (by kernel_rfl))
            obtain rfl := f5.out (hD.on 5 (by kernel_rfl))
            try simp only [puts, Act.put, List.setIfInBounds_toArray, List.set_cons_zero, List.set_cons_succ]
            try go_simp
            refine (HPK.out _).mono ?_
            rintro e W' ⟨rfl, rfl⟩
            try go_simp
            exact hK.out _ _ _ (by simp only [puts, Act.put, List.setIfInBounds_toArray, List.set_cons_zero, List.set_cons_succ] <;> rfl) ⟨hG, (fun h => f0.out h), (fun h => f1.out h), (fun h => f2.out h), (fun h => f3.out h), (fun h => f4.out h), (fun h => f5.out h), (fun _ => rfl), (fun h => f7.out h), (fun h => f8.out h), (fun h => f9.out h), (fun h => f10.out h)⟩
          · intro L vs W hlen hL hD hI K hK
            obtain ⟨x0, x1, x2, x3, x4, x5, x6, x7, x8, x9, x10, rfl⟩ := len11 hlen
            have hG := hI.1
            replace hI := hI.2
            have f0 := hide hI.1
            replace hI := hI.2
            have f1 := hide hI.1
            replace hI := hI.2
            have f2 := hide hI.1
            replace hI := hI.2
            have f3 := hide hI.1
            replace hI := hI.2
            have f4 := hide hI.1
            replace hI := hI.2
            have f5 := hide hI.1
            replace hI := hI.2
            have f6 := hide hI.1
            replace hI := hI.2
            have f7 := hide hI.1
            replace hI := hI.2
            have f8 := hide hI.1
            replace hI := hI.2
            have f9 := hide hI.1
            replace hI := hI.2
            have f10 := hide hI
            clear hI
            try simp only [puts, Act.put, List.setIfInBounds_toArray, List.set_cons_zero, List.set_cons_succ]
            try go_simp
            exact hK.out _ _ _ (by simp only [puts, Act.put, List.setIfInBounds_toArray, List.set_cons_zero, List.set_cons_succ] <;> rfl) ⟨hG, (fun h => f0.out h), (fun h => f1.out h), (fun h => f2.out h), (fun h => f3.out h), (fun h => f4.out h), (fun h => f5.out h), (fun h => f6.out h), (fun _ => rfl), (fun h => f8.out h), (fun h => f9.out h), (fun h => f10.out h)⟩
          · intro L vs W hlen hL hD hI K hK
            obtain ⟨x0, x1, x2, x3, x4, x5, x6, x7, x8, x9, x10, rfl⟩ := len11 hlen
            have hG := hI.1
            replace hI := hI.2
            have f0 := hide hI.1
            replace hI := hI.2
            have f1 := hide hI.1
            replace hI := hI.2
            have f2 := hide hI.1
            replace hI := hI.2
            have f3 := hide hI.1
            replace hI := hI.2
            have f4 := hide hI.1
            replace hI := hI.2
            have f5 := hide hI.1
            replace hI := hI.2
            have f6 := hide hI.1
            replace hI := hI.2
            have f7 := hide hI.1
            replace hI := hI.2
            have f8 := hide hI.1
            replace hI := hI.2
            have f9 := hide hI.1
            replace hI := hI.2
            have f10 := hide hI
            clear hI
            obtain rfl := f1.out (hD.on 1 (by kernel_rfl))
            obtain rfl := f6.out (hD.on 6 (by kernel_rfl))
            try simp only [puts, Act.put, List.setIfInBounds_toArray, List.set_cons_zero, List.set_cons_succ]
            try go_simp
            exact hK.out _ _ _ (by simp only [puts, Act.put, List.setIfInBounds_toArray, List.set_cons_zero, List.set_cons_succ] <;> rfl) ⟨hG, (fun h => f0.out h), (fun h => f1.out h), (fun h => f2.out h), (fun h => f3.out h), (fun h => f4.out h), (fun h => f5.out h), (fun h => f6.out h), (fun h => f7.out h), (fun _ => rfl), (fun h => f9.out h), (fun h => f10.out h)⟩
          · intro L vs W hlen hL hD hI K hK
            obtain ⟨x0, x1, x2, x3, x4, x5, x6, x7, x8, x9, x10, rfl⟩ := len11 hlen
            have hG := hI.1
            replace hI := hI.2
            have f0 := hide hI.1
            replace hI := hI.2
            have f1 := hide hI.1
            replace hI := hI.2
            have f2 := hide hI.1
            replace hI := hI.2
            have f3 := hide hI.1
            replace hI := hI.2
            have f4 := hide hI.1
            replace hI := hI.2
            have f5 := hide hI.1
            replace hI := hI.2
            have f6 := hide hI.1
            replace hI := hI.2
            have f7 := hide hI.1
            replace hI := hI.2
            have f8 := hide hI.1
            replace hI := hI.2
            have f9 := hide hI.1
            replace hI := hI.2
            have f10 := hide hI
            clear hI
            obtain rfl := f8.out (hD.on 8 (by kernel_rfl))
            try simp only [puts, Act.put, List.setIfInBounds_toArray, List.set_cons_zero, List.set_cons_succ]
            try go_simp
            exact hK.out _ _ _ (by simp only [puts, Act.put, List.setIfInBounds_toArray, List.set_cons_zero, List.set_cons_succ] <;> rfl) ⟨hG, (fun h => f0.out h), (fun h => f1.out h), (fun h => f2.out h), (fun h => f3.out h), (fun h => f4.out h), (fun h => f5.out h), (fun h => f6.out h), (fun h => f7.out h), (fun h => f8.out h), (fun _ => rfl), (fun h => f10.out h)⟩
          · intro L vs W hlen hL hD hI K hK
            obtain ⟨x0, x1, x2, x3, x4, x5, x6, x7, x8, x9, x10, rfl⟩ := len11 hlen
            have hG := hI.1
            replace hI := hI.2
            have f0 := hide hI.1
            replace hI := hI.2
            have f1 := hide hI.1
            replace hI := hI.2
            have f2 := hide hI.1
            replace hI := hI.2
            have f3 := hide hI.1
            replace hI := hI.2
            have f4 := hide hI.1
            replace hI := hI.2
            have f5 := hide hI.1
            replace hI := hI.2
            have f6 := hide hI.1
            replace hI := hI.2
            have f7 := hide hI.1
            replace hI := hI.2
            have f8 := hide hI.1
            replace hI := hI.2
            have f9 := hide hI.1
            replace hI := hI.2
            have f10 := hide hI
            clear hI
            obtain rfl := f7.out (hD.on 7 (by kernel_rfl))
            obtain rfl := f9.out (hD.on 9 (by kernel_rfl))
            try simp only [puts, Act.put, List.setIfInBounds_toArray, List.set_cons_zero, List.set_cons_succ]
            have hbW := hG.2 hL
            obtain ⟨z0, v0, zc⟩ := HAT.out _ hbW
            go_simp
            have hb : True := trivial
            exact hK.out _ undef _ (by simp only [puts, Act.put, List.setIfInBounds_toArray, List.set_cons_zero, List.set_cons_succ] <;> rfl) ⟨⟨hG.1.other hgO _ _, fun h => by cases h⟩, (fun h => f0.out h), (fun h => f1.out h), (fun h => f2.out h), (fun h => f3.out h), (fun h => f4.out h), (fun h => f5.out h), (fun h => f6.out h), (fun h => f7.out h), (fun h => f8.out h), (fun h => f9.out h), (fun _ => ⟨W, hG.2 hL, rfl⟩)⟩
        intro L vs W hlen hall hI
        obtain ⟨x0, x1, x2, x3, x4, x5, x6, x7, x8, x9, x10, rfl⟩ := len11 hlen
        have hG := hI.1
        replace hI := hI.2
        have f0 := hide hI.1
        replace hI := hI.2
        have f1 := hide hI.1
        replace hI := hI.2
        have f2 := hide hI.1
        replace hI := hI.2
        have f3 := hide hI.1
        replace hI := hI.2
        have f4 := hide hI.1
        replace hI := hI.2
        have f5 := hide hI.1
        replace hI := hI.2
        have f6 := hide hI.1
        replace hI := hI.2
        have f7 := hide hI.1
        replace hI := hI.2
        have f8 := hide hI.1
        replace hI := hI.2
        have f9 := hide hI.1
        replace hI := hI.2
        have f10 := hide hI
        clear hI
        obtain rfl := f0.out (hall 0 (by decide))
        obtain rfl := f1.out (hall 1 (by decide))
        obtain rfl := f2.out (hall 2 (by decide))
        obtain rfl := f3.out (hall 3 (by decide))
        obtain rfl := f4.out (hall 4 (by decide))
        obtain rfl := f5.out (hall 5 (by decide))
        obtain rfl := f6.out (hall 6 (by decide))
        obtain rfl := f7.out (hall 7 (by decide))
        obtain rfl := f8.out (hall 8 (by decide))
        obtain rfl := f9.out (hall 9 (by decide))
        have g10 := f10.out (hall 10 (by decide))
        have hal := hide hall
        clear hall f0 f1 f2 f3 f4 f5 f6 f7 f8 f9 f10
        try simp only [puts, Act.put, List.setIfInBounds_toArray, List.set_cons_zero, List.set_cons_succ]
        obtain ⟨Wp, hbp, rfl⟩ := g10
        have hoz := HPUT.out Wp hbp
        have bOz := (bO.later hbp).other hgO (K * 6 + 1) (.int .i64 n)
        have bRz := (bR.later hbp).other (show w.heap.size + 1 ≠ g by omega) (K * 6 + 1) (.int .i64 n)
        have hwz : Below w.heap.size w (Wp.setCell ⟨g, K * 6 + 1, none⟩ (.int .i64 n)) := (below2 hw2 hbp).setCell (p := ⟨g, K * 6 + 1, none⟩) (by show w.heap.size ≤ g; omega) _
        generalize Wp.setCell ⟨g, K * 6 + 1, none⟩ (.int .i64 n) = Wz at hoz bOz bRz hwz hG ⊢
        clear hG hal HPUT HAT HPK hbp bO bR hco hre0 hfa0 hcl0
        have o0 := bOz.cell 0 rfl
        have o1 := bOz.cell 1 rfl
        have o2 := bOz.cell 2 rfl
        have r0 := bRz.cell 0 rfl
        have r1 := bRz.cell 1 rfl
        have r2 := bRz.cell 2 rfl
        have rf0 := bRz.frozen 0
        have rf1 := bRz.frozen 1
        have rf2 := bRz.frozen 2
        have HOZ := hide hoz
        have HWZ := hide hwz
        clear hoz hwz
        go_wp2_with fail
        have q1 := bRz.set 0 (.slice ca2 c.clauses.length cn2)
        have q2 := q1.set 1 (.slice ra2 c.repeals.length rn2)
        have q := q2.set 2 (.slice (some ⟨g, 0, none⟩) c.facts.length fn2)
        have x0 := q.cell 0 rfl
        have x1 := q.cell 1 rfl
        have x2 := q.cell 2 rfl
        refine bodyPost_ret (v := .agg #[.slice ca2 c.clauses.length cn2, .slice ra2 c.repeals.length rn2, .slice (some ⟨g, 0, none⟩) c.facts.length fn2]) (by simp [results, Tryz.results6, go_sem, x0, x1, x2]) rfl ?_
        exact ⟨_, _, _, _, rfl, ((((HOZ.out.setO bRz _).setO q1 _).setO q2 _).at (C := 0) (Nat.zero_le _) (Nat.zero_le _)).keeps (keeps_frm _ _), ((HWZ.out.setCell (p := ⟨w.heap.size + 1, 0, none⟩) (by show w.heap.size ≤ w.heap.size + 1; omega) _).setCell (p := ⟨w.heap.size + 1, 1, none⟩) (by show w.heap.size ≤ w.heap.size + 1; omega) _).setCell (p := ⟨w.heap.size + 1, 2, none⟩) (by show w.heap.size ≤ w.heap.size + 1; omega) _⟩
    · have hK := HKB.out _ hpc
      obtain ⟨K, hKe⟩ : ∃ K : Nat, pk c.clauses.length = K := ⟨(pk c.clauses.length).toNat, by omega⟩
      have hKl : K < c.clauses.length := by omega
      have hKI : (K : Int) < c.clauses.length := by omega
      have HPK := hide (fun W => HPC.out c.clauses.length W hpc (by omega))
      rw [hKe] at HPK
      obtain ⟨g, e1, hg1, hg2, -⟩ := clauses_at hcl0 hKl
      subst e1
      obtain ⟨g', na, nn, ba, bn, e2, hin, hib, hcells⟩ := clauses_rec hco.cl hKl
      cases e2
      have hgO : w1.heap.size ≠ g := by omega
      have HY4 := hide (HM.out _ (getD_mem c.clauses K (d := clause0) hKl))
      have HFZ := hide (fun W (hb : Below Y1.heap.size Y1 W) => clauses_six (hco.cl.later hb) hKl)
      have HPUT := hide (fun W (hb : Below Y1.heap.size Y1 W) (y : ClauseD) nv bv hn hb' => (CodeOwn.mk ((hco.later hb).cl.six hKl (y := y) (nv := nv) (bv := bv) hn hb') ((hco.later hb).re.six6 (hco.later hb).cl (by decide)) ((hco.later hb).fa.six6 (hco.later hb).cl (by decide)) : CodeOwn _ _ _ _ _ _ ⟨c.clauses.set K y, c.repeals, c.facts⟩))
      generalize hy : c.clauses.getD K clause0 = y at hin hib hcells HY4
      have M0 := hcells 0 _ rfl
      rw [Nat.add_zero] at M0
      have M1 := hcells 1 _ rfl
      have M2 := hcells 2 _ rfl
      have M3 := hcells 3 _ rfl
      have M4 := hcells 4 _ rfl
      have M5 := hcells 5 _ rfl
      have HBC := hide (fun W (hb : Below Y1.heap.size Y1 W) (h8 : i64B p) => bentc_any y (.slice na y.needs.length nn) (.slice ba y.bars.length bn) p n X2.heap.size W (Nat.le_trans hXY hb.size) (hin.keeps (keeps_frmY_below hb)) (hib.keeps (keeps_frmY_below hb)) (by have := HY4.out.1; omega) (by have := HY4.out.2; omega) h8)
      have HP64 : Hid (i64B p) := hide ⟨by omega, by omega⟩
      clear hK hKe hcells hin hib hy
      have o0 := bO.cell 0 rfl
      go_wp2_with fail
      refine (HPK.out _).mono ?_
      rintro e w4 ⟨rfl, hw⟩; obtain rfl := hw.symm
      go_wp2_with fail
      refine wp_region_inv [some 29, some 30, some 31, some 32, some 33, some 34, some 35, some 36, some 37, some 38, some 39, some 40, none] (fun L vs W => match vs with | [x0, x1, x2, x3, x4, x5, x6, x7, x8, x9, x10, x11, x12] => (Blk W w1.heap.size [.slice (some ⟨g, 0, none⟩) c.clauses.length cn2, .slice ra2 c.repeals.length rn2, .slice fa2 c.facts.length fn2] 30 ∧ (L 12 = false → Below Y1.heap.size Y1 W)) ∧ (L 0 = true → x0 = .pointer (some ⟨w1.heap.size, 0, none⟩)) ∧ (L 1 = true → x1 = .slice (some ⟨g, 0, none⟩) c.clauses.length cn2) ∧ (L 2 = true → x2 = .int .i64 K) ∧ (L 3 = true → x3 = .pointer (some ⟨w1.heap.size, 0, none⟩)) ∧ (L 4 = true → x4 = .slice (some ⟨g, 0, none⟩) c.clauses.length cn2) ∧ (L 5 = true → x5 = .int .i64 K) ∧ (L 6 = true → x6 = .pointer (some ⟨g, K * 6, none⟩)) ∧ (L 7 = true → x7 = clauseV y (.slice na y.needs.length nn) (.slice ba y.bars.length bn)) ∧ (L 8 = true → x8 = .int .i64 p) ∧ (L 9 = true → x9 = .int .i64 n) ∧ (L 10 = true → L 7 = true ∧ ∃ (y' : ClauseD) (nv' bv' : Value), x10 = clauseV y' nv' bv' ∧ (L 12 = false → IntsIn (frmY X2.heap.size 3 W) nv' y'.needs ∧ IntsIn (frmY X2.heap.size 3 W) bv' y'.bars)) ∧ (L 11 = true → x11 = .pointer (some ⟨g, K * 6, none⟩)) ∧ (L 12 = true → (L 7 = true ∧ L 10 = true) ∧ ∃ (Wp : World) (y' : ClauseD) (nv' bv' : Value), Below Y1.heap.size Y1 Wp ∧ IntsIn (frmY X2.heap.size 3 Wp) nv' y'.needs ∧ IntsIn (frmY X2.heap.size 3 Wp) bv' y'.bars ∧ W = (((((Wp.setCell ⟨g, K * 6, none⟩ (.int .i64 y'.pub)).setCell ⟨g, K * 6 + 1, none⟩ (.int .i64 y'.sf)).setCell ⟨g, K * 6 + 2, none⟩ (.int .i64 y'.st)).setCell ⟨g, K * 6 + 3, none⟩ nv').setCell ⟨g, K * 6 + 4, none⟩ bv').setCell ⟨g, K * 6 + 5, none⟩ (.int .i64 y'.gives)) | _ => False) [_, _, _, _, _, _, _, _, _, _, _, _, undef] (by kernel_rfl) (by kernel_rfl) rfl (by simp only [puts, Act.put, List.setIfInBounds_toArray, List.set_cons_zero, List.set_cons_succ] <;> rfl) ?_ ?_ ?_
      · exact ⟨⟨bO, fun _ => (Below.refl _ _).drew⟩, (fun h => by cases h), (fun h => by cases h), (fun h => by cases h), (fun h => by cases h), (fun h => by cases h), (fun h => by cases h), (fun h => by cases h), (fun h => by cases h), (fun h => by cases h), (fun h => by cases h), (fun h => by cases h), (fun h => by cases h), (fun h => by cases h)⟩
      · refine ⟨?_, ?_, ?_, ?_, ?_, ?_, ?_, ?_, ?_, ?_, ?_, ?_, ?_, trivial⟩
        · intro L vs W hlen hL hD hI K hK
          obtain ⟨x0, x1, x2, x3, x4, x5, x6, x7, x8, x9, x10, x11, x12, rfl⟩ := len13 hlen
          have hG := hI.1
          replace hI := hI.2
          have f0 := hide hI.1
          replace hI := hI.2
          have f1 := hide hI.1
          replace hI := hI.2
          have f2 := hide hI.1
          replace hI := hI.2
          have f3 := hide hI.1
          replace hI := hI.2
          have f4 := hide hI.1
          replace hI := hI.2
          have f5 := hide hI.1
          replace hI := hI.2
          have f6 := hide hI.1
          replace hI := hI.2
          have f7 := hide hI.1
          replace hI := hI.2
          have f8 := hide hI.1
          replace hI := hI.2
          have f9 := hide hI.1
          replace hI := hI.2
          have f10 := hide hI.1
          replace hI := hI.2
          have f11 := hide hI.1
          replace hI := hI.2
          have f12 := hide hI
          clear hI
          try simp only [puts, Act.put, List.setIfInBounds_toArray, List.set_cons_zero, List.set_cons_succ]
          try go_simp
          exact hK.out _ _ _ (by simp only [puts, Act.put, List.setIfInBounds_toArray, List.set_cons_zero, List.set_cons_succ] <;> rfl) ⟨hG, (fun _ => rfl), (fun h => f1.out h), (fun h => f2.out h), (fun h => f3.out h), (fun h => f4.out h), (fun h => f5.out h), (fun h => f6.out h), (fun h => f7.out h), (fun h => f8.out h), (fun h => f9.out h), (fun h => f10.out h), (fun h => f11.out h), (fun h => f12.out h)⟩
        · intro L vs W hlen hL hD hI K hK
          obtain ⟨x0, x1, x2, x3, x4, x5, x6, x7, x8, x9, x10, x11, x12, rfl⟩ := len13 hlen
          have hG := hI.1
          replace hI := hI.2
          have f0 := hide hI.1
          replace hI := hI.2
          have f1 := hide hI.1
          replace hI := hI.2
          have f2 := hide hI.1
          replace hI := hI.2
          have f3 := hide hI.1
          replace hI := hI.2
          have f4 := hide hI.1
          replace hI := hI.2
          have f5 := hide hI.1
          replace hI := hI.2
          have f6 := hide hI.1
          replace hI := hI.2
          have f7 := hide hI.1
          replace hI := hI.2
          have f8 := hide hI.1
          replace hI := hI.2
          have f9 := hide hI.1
          replace hI := hI.2
          have f10 := hide hI.1
          replace hI := hI.2
          have f11 := hide hI.1
          replace hI := hI.2
          have f12 := hide hI
          clear hI
          obtain rfl := f0.out (hD.on 0 (by kernel_rfl))
          try simp only [puts, Act.put, List.setIfInBounds_toArray, List.set_cons_zero, List.set_cons_succ]
          have p1 := hG.1.cell 0 rfl
          go_simp
          exact hK.out _ _ _ (by simp only [puts, Act.put, List.setIfInBounds_toArray, List.set_cons_zero, List.set_cons_succ] <;> rfl) ⟨hG, (fun h => f0.out h), (fun _ => rfl), (fun h => f2.out h), (fun h => f3.out h), (fun h => f4.out h), (fun h => f5.out h), (fun h => f6.out h), (fun h => f7.out h), (fun h => f8.out h), (fun h => f9.out h), (fun h => f10.out h), (fun h => f11.out h), (fun h => f12.out h)⟩
        · intro L vs W hlen hL hD hI K hK
          obtain ⟨x0, x1, x2, x3, x4, x5, x6, x7, x8, x9, x10, x11, x12, rfl⟩ := len13 hlen
          have hG := hI.1
          replace hI := hI.2
          have f0 := hide hI.1
          replace hI := hI.2
          have f1 := hide hI.1
          replace hI := hI.2
          have f2 := hide hI.1
          replace hI := hI.2
          have f3 := hide hI.1
          replace hI := hI.2
          have f4 := hide hI.1
          replace hI := hI.2
          have f5 := hide hI.1
          replace hI := hI.2
          have f6 := hide hI.1
          replace hI := hI.2
          have f7 := hide hI.1
          replace hI := hI.2
          have f8 := hide hI.1
          replace hI := hI.2
          have f9 := hide hI.1
          replace hI := hI.2
          have f10 := hide hI.1
          replace hI := hI.2
          have f11 := hide hI.1
          replace hI := hI.2
          have f12 := hide hI
          clear hI
          try simp only [puts, Act.put, List.setIfInBounds_toArray, List.set_cons_zero, List.set_cons_succ]
          try go_simp
          exact hK.out _ _ _ (by simp only [puts, Act.put, List.setIfInBounds_toArray, List.set_cons_zero, List.set_cons_succ] <;> rfl) ⟨hG, (fun h => f0.out h), (fun h => f1.out h), (fun _ => rfl), (fun h => f3.out h), (fun h => f4.out h), (fun h => f5.out h), (fun h => f6.out h), (fun h => f7.out h), (fun h => f8.out h), (fun h => f9.out h), (fun h => f10.out h), (fun h => f11.out h), (fun h => f12.out h)⟩
        · intro L vs W hlen hL hD hI K hK
          obtain ⟨x0, x1, x2, x3, x4, x5, x6, x7, x8, x9, x10, x11, x12, rfl⟩ := len13 hlen
          have hG := hI.1
          replace hI := hI.2
          have f0 := hide hI.1
          replace hI := hI.2
          have f1 := hide hI.1
          replace hI := hI.2
          have f2 := hide hI.1
          replace hI := hI.2
          have f3 := hide hI.1
          replace hI := hI.2
          have f4 := hide hI.1
          replace hI := hI.2
          have f5 := hide hI.1
          replace hI := hI.2
          have f6 := hide hI.1
          replace hI := hI.2
          have f7 := hide hI.1
          replace hI := hI.2
          have f8 := hide hI.1
          replace hI := hI.2
          have f9 := hide hI.1
          replace hI := hI.2
          have f10 := hide hI.1
          replace hI := hI.2
          have f11 := hide hI.1
          replace hI := hI.2
          have f12 := hide hI
          clear hI
          try simp only [puts, Act.put, List.setIfInBounds_toArray, List.set_cons_zero, List.set_cons_succ]
          try go_simp
          exact hK.out _ _ _ (by simp only [puts, Act.put, List.setIfInBounds_toArray, List.set_cons_zero, List.set_cons_succ] <;> rfl) ⟨hG, (fun h => f0.out h), (fun h => f1.out h), (fun h => f2.out h), (fun _ => rfl), (fun h => f4.out h), (fun h => f5.out h), (fun h => f6.out h), (fun h => f7.out h), (fun h => f8.out h), (fun h => f9.out h), (fun h => f10.out h), (fun h => f11.out h), (fun h => f12.out h)⟩
        · intro L vs W hlen hL hD hI K hK
          obtain ⟨x0, x1, x2, x3, x4, x5, x6, x7, x8, x9, x10, x11, x12, rfl⟩ := len13 hlen
          have hG := hI.1
          replace hI := hI.2
          have f0 := hide hI.1
          replace hI := hI.2
          have f1 := hide hI.1
          replace hI := hI.2
          have f2 := hide hI.1
          replace hI := hI.2
          have f3 := hide hI.1
          replace hI := hI.2
          have f4 := hide hI.1
          replace hI := hI.2
          have f5 := hide hI.1
          replace hI := hI.2
          have f6 := hide hI.1
          replace hI := hI.2
          have f7 := hide hI.1
          replace hI := hI.2
          have f8 := hide hI.1
          replace hI := hI.2
          have f9 := hide hI.1
          replace hI := hI.2
          have f10 := hide hI.1
          replace hI := hI.2
          have f11 := hide hI.1
          replace hI := hI.2
          have f12 := hide hI
          clear hI
          obtain rfl := f3.out (hD.on 3 (by kernel_rfl))
          try simp only [puts, Act.put, List.setIfInBounds_toArray, List.set_cons_zero, List.set_cons_succ]
          have p1 := hG.1.cell 0 rfl
          go_simp
          exact hK.out _ _ _ (by simp only [puts, Act.put, List.setIfInBounds_toArray, List.set_cons_zero, List.set_cons_succ] <;> rfl) ⟨hG, (fun h => f0.out h), (fun h => f1.out h), (fun h => f2.out h), (fun h => f3.out h), (fun _ => rfl), (fun h => f5.out h), (fun h => f6.out h), (fun h => f7.out h), (fun h => f8.out h), (fun h => f9.out h), (fun h => f10.out h), (fun h => f11.out h), (fun h => f12.out h)⟩
        · intro L vs W hlen hL hD hI K hK
          obtain ⟨x0, x1, x2, x3, x4, x5, x6, x7, x8, x9, x10, x11, x12, rfl⟩ := len13 hlen
          have hG := hI.1
          replace hI := hI.2
          have f0 := hide hI.1
          replace hI := hI.2
          have f1 := hide hI.1
          replace hI := hI.2
          have f2 := hide hI.1
          replace hI := hI.2
          have f3 := hide hI.1
          replace hI := hI.2
          have f4 := hide hI.1
          replace hI := hI.2
          have f5 := hide hI.1
          replace hI := hI.2
          have f6 := hide hI.1
          replace hI := hI.2
          have f7 := hide hI.1
          replace hI := hI.2
          have f8 := hide hI.1
          replace hI := hI.2
          have f9 := hide hI.1
          replace hI := hI.2
          have f10 := hide hI.1
          replace hI := hI.2
          have f11 := hide hI.1
          replace hI := hI.2
          have f12 := hide hI
          clear hI
          try simp only [puts, Act.put, List.setIfInBounds_toArray, List.set_cons_zero, List.set_cons_succ]
          try go_simp
          exact hK.out _ _ _ (by simp only [puts, Act.put, List.setIfInBounds_toArray, List.set_cons_zero, List.set_cons_succ] <;> rfl) ⟨hG, (fun h => f0.out h), (fun h => f1.out h), (fun h => f2.out h), (fun h => f3.out h), (fun h => f4.out h), (fun _ => rfl), (fun h => f6.out h), (fun h => f7.out h), (fun h => f8.out h), (fun h => f9.out h), (fun h => f10.out h), (fun h => f11.out h), (fun h => f12.out h)⟩
        · intro L vs W hlen hL hD hI K hK
          obtain ⟨x0, x1, x2, x3, x4, x5, x6, x7, x8, x9, x10, x11, x12, rfl⟩ := len13 hlen
          have hG := hI.1
          replace hI := hI.2
          have f0 := hide hI.1
          replace hI := hI.2
          have f1 := hide hI.1
          replace hI := hI.2
          have f2 := hide hI.1
          replace hI := hI.2
          have f3 := hide hI.1
          replace hI := hI.2
          have f4 := hide hI.1
          replace hI := hI.2
          have f5 := hide hI.1
          replace hI := hI.2
          have f6 := hide hI.1
          replace hI := hI.2
          have f7 := hide hI.1
          replace hI := hI.2
          have f8 := hide hI.1
          replace hI := hI.2
          have f9 := hide hI.1
          replace hI := hI.2
          have f10 := hide hI.1
          replace hI := hI.2
          have f11 := hide hI.1
          replace hI := hI.2
          have f12 := hide hI
          clear hI
          obtain rfl := f4.out (hD.on 4 (by kernel_rfl))
          obtain rfl := f5.out (hD.on 5 (by kernel_rfl))
          try simp only [puts, Act.put, List.setIfInBounds_toArray, List.set_cons_zero, List.set_cons_succ]
          try go_simp
          exact hK.out _ _ _ (by simp only [puts, Act.put, List.setIfInBounds_toArray, List.set_cons_zero, List.set_cons_succ] <;> rfl) ⟨hG, (fun h => f0.out h), (fun h => f1.out h), (fun h => f2.out h), (fun h => f3.out h), (fun h => f4.out h), (fun h => f5.out h), (fun _ => rfl), (fun h => f7.out h), (fun h => f8.out h), (fun h => f9.out h), (fun h => f10.out h), (fun h => f11.out h), (fun h => f12.out h)⟩
        · intro L vs W hlen hL hD hI K hK
          obtain ⟨x0, x1, x2, x3, x4, x5, x6, x7, x8, x9, x10, x11, x12, rfl⟩ := len13 hlen
          have hG := hI.1
          replace hI := hI.2
          have f0 := hide hI.1
          replace hI := hI.2
          have f1 := hide hI.1
          replace hI := hI.2
          have f2 := hide hI.1
          replace hI := hI.2
          have f3 := hide hI.1
          replace hI := hI.2
          have f4 := hide hI.1
          replace hI := hI.2
          have f5 := hide hI.1
          replace hI := hI.2
          have f6 := hide hI.1
          replace hI := hI.2
          have f7 := hide hI.1
          replace hI := hI.2
          have f8 := hide hI.1
          replace hI := hI.2
          have f9 := hide hI.1
          replace hI := hI.2
          have f10 := hide hI.1
          replace hI := hI.2
          have f11 := hide hI.1
          replace hI := hI.2
          have f12 := hide hI
          clear hI
          obtain rfl := f6.out (hD.on 6 (by kernel_rfl))
          try simp only [puts, Act.put, List.setIfInBounds_toArray, List.set_cons_zero, List.set_cons_succ]
          have h12 : L 12 = false := Bool.eq_false_iff.2 (fun h => absurd ((f12.out h).1.1.symm.trans hL) (by decide))
          have kb := hG.2 h12
          have m0 := keep kb M0
          have m1 := keep kb M1
          have m2 := keep kb M2
          have m3 := keep kb M3
          have m4 := keep kb M4
          have m5 := keep kb M5
          go_simp
          exact hK.out _ _ _ (by simp only [puts, Act.put, List.setIfInBounds_toArray, List.set_cons_zero, List.set_cons_succ] <;> rfl) ⟨hG, (fun h => f0.out h), (fun h => f1.out h), (fun h => f2.out h), (fun h => f3.out h), (fun h => f4.out h), (fun h => f5.out h), (fun h => f6.out h), (fun _ => rfl), (fun h => f8.out h), (fun h => f9.out h), (fun h => (fun h => ⟨rfl, h.2⟩) (f10.out h)), (fun h => f11.out h), (fun h => (fun h => absurd (h.1.1.symm.trans hL) (by decide)) (f12.out h))⟩
        · intro L vs W hlen hL hD hI K hK
          obtain ⟨x0, x1, x2, x3, x4, x5, x6, x7, x8, x9, x10, x11, x12, rfl⟩ := len13 hlen
          have hG := hI.1
          replace hI := hI.2
          have f0 := hide hI.1
          replace hI := hI.2
          have f1 := hide hI.1
          replace hI := hI.2
          have f2 := hide hI.1
          replace hI := hI.2
          have f3 := hide hI.1
          replace hI := hI.2
          have f4 := hide hI.1
          replace hI := hI.2
          have f5 := hide hI.1
          replace hI := hI.2
          have f6 := hide hI.1
          replace hI := hI.2
          have f7 := hide hI.1
          replace hI := hI.2
          have f8 := hide hI.1
          replace hI := hI.2
          have f9 := hide hI.1
          replace hI := hI.2
          have f10 := hide hI.1
          replace hI := hI.2
          have f11 := hide hI.1
          replace hI := hI.2
          have f12 := hide hI
          clear hI
          try simp only [puts, Act.put, List.setIfInBounds_toArray, List.set_cons_zero, List.set_cons_succ]
          try go_simp
          exact hK.out _ _ _ (by simp only [puts, Act.put, List.setIfInBounds_toArray, List.set_cons_zero, List.set_cons_succ] <;> rfl) ⟨hG, (fun h => f0.out h), (fun h => f1.out h), (fun h => f2.out h), (fun h => f3.out h), (fun h => f4.out h), (fun h => f5.out h), (fun h => f6.out h), (fun h => f7.out h), (fun _ => rfl), (fun h => f9.out h), (fun h => f10.out h), (fun h => f11.out h), (fun h => f12.out h)⟩
        · intro L vs W hlen hL hD hI K hK
          obtain ⟨x0, x1, x2, x3, x4, x5, x6, x7, x8, x9, x10, x11, x12, rfl⟩ := len13 hlen
          have hG := hI.1
          replace hI := hI.2
          have f0 := hide hI.1
          replace hI := hI.2
          have f1 := hide hI.1
          replace hI := hI.2
          have f2 := hide hI.1
          replace hI := hI.2
          have f3 := hide hI.1
          replace hI := hI.2
          have f4 := hide hI.1
          replace hI := hI.2
          have f5 := hide hI.1
          replace hI := hI.2
          have f6 := hide hI.1
          replace hI := hI.2
          have f7 := hide hI.1
          replace hI := hI.2
          have f8 := hide hI.1
          replace hI := hI.2
          have f9 := hide hI.1
          replace hI := hI.2
          have f10 := hide hI.1
          replace hI := hI.2
          have f11 := hide hI.1
          replace hI := hI.2
          have f12 := hide hI
          clear hI
          try simp only [puts, Act.put, List.setIfInBounds_toArray, List.set_cons_zero, List.set_cons_succ]
          try go_simp
          exact hK.out _ _ _ (by simp only [puts, Act.put, List.setIfInBounds_toArray, List.set_cons_zero, List.set_cons_succ] <;> rfl) ⟨hG, (fun h => f0.out h), (fun h => f1.out h), (fun h => f2.out h), (fun h => f3.out h), (fun h => f4.out h), (fun h => f5.out h), (fun h => f6.out h), (fun h => f7.out h), (fun h => f8.out h), (fun _ => rfl), (fun h => f10.out h), (fun h => f11.out h), (fun h => f12.out h)⟩
        · intro L vs W hlen hL hD hI K hK
          obtain ⟨x0, x1, x2, x3, x4, x5, x6, x7, x8, x9, x10, x11, x12, rfl⟩ := len13 hlen
          have hG := hI.1
          replace hI := hI.2
          have f0 := hide hI.1
          replace hI := hI.2
          have f1 := hide hI.1
          replace hI := hI.2
          have f2 := hide hI.1
          replace hI := hI.2
          have f3 := hide hI.1
          replace hI := hI.2
          have f4 := hide hI.1
          replace hI := hI.2
          have f5 := hide hI.1
          replace hI := hI.2
          have f6 := hide hI.1
          replace hI := hI.2
          have f7 := hide hI.1
          replace hI := hI.2
          have f8 := hide hI.1
          replace hI := hI.2
          have f9 := hide hI.1
          replace hI := hI.2
          have f10 := hide hI.1
          replace hI := hI.2
          have f11 := hide hI.1
          replace hI := hI.2
          have f12 := hide hI
          clear hI
          obtain rfl := f7.out (hD.on 7 (by kernel_rfl))
          obtain rfl := f8.out (hD.on 8 (by kernel_rfl))
          obtain rfl := f9.out (hD.on 9 (by kernel_rfl))
          try simp only [puts, Act.put, List.setIfInBounds_toArray, List.set_cons_zero, List.set_cons_succ]
          try go_simp
          have h12 : L 12 = false := Bool.eq_false_iff.2 (fun h => absurd ((f12.out h).1.2.symm.trans hL) (by decide))
          refine (HBC.out _ (hG.2 h12) HP64.out).mono ?_
          rintro e W' ⟨y', nv', bv', rfl, hn', hb', hb⟩
          try go_simp
          exact hK.out _ _ _ (by simp only [puts, Act.put, List.setIfInBounds_toArray, List.set_cons_zero, List.set_cons_succ] <;> rfl) ⟨⟨hG.1.later hb, fun h => below2 (hG.2 h) hb⟩, (fun h => f0.out h), (fun h => f1.out h), (fun h => f2.out h), (fun h => f3.out h), (fun h => f4.out h), (fun h => f5.out h), (fun h => f6.out h), (fun h => f7.out h), (fun h => f8.out h), (fun h => f9.out h), (fun _ => ⟨hD.on 7 (by kernel_rfl), y', nv', bv', rfl, fun _ => ⟨hn', hb'⟩⟩), (fun h => f11.out h), (fun h => (fun h => absurd (h.1.2.symm.trans hL) (by decide)) (f12.out h))⟩
        · intro L vs W hlen hL hD hI K hK
          obtain ⟨x0, x1, x2, x3, x4, x5, x6, x7, x8, x9, x10, x11, x12, rfl⟩ := len13 hlen
          have hG := hI.1
          replace hI := hI.2
          have f0 := hide hI.1
          replace hI := hI.2
          have f1 := hide hI.1
          replace hI := hI.2
          have f2 := hide hI.1
          replace hI := hI.2
          have f3 := hide hI.1
          replace hI := hI.2
          have f4 := hide hI.1
          replace hI := hI.2
          have f5 := hide hI.1
          replace hI := hI.2
          have f6 := hide hI.1
          replace hI := hI.2
          have f7 := hide hI.1
          replace hI := hI.2
          have f8 := hide hI.1
          replace hI := hI.2
          have f9 := hide hI.1
          replace hI := hI.2
          have f10 := hide hI.1
          replace hI := hI.2
          have f11 := hide hI.1
          replace hI := hI.2
          have f12 := hide hI
          clear hI
          obtain rfl := f1.out (hD.on 1 (by kernel_rfl))
          obtain rfl := f2.out (hD.on 2 (by kernel_rfl))
          try simp only [puts, Act.put, List.setIfInBounds_toArray, List.set_cons_zero, List.set_cons_succ]
          try go_simp
          exact hK.out _ _ _ (by simp only [puts, Act.put, List.setIfInBounds_toArray, List.set_cons_zero, List.set_cons_succ] <;> rfl) ⟨hG, (fun h => f0.out h), (fun h => f1.out h), (fun h => f2.out h), (fun h => f3.out h), (fun h => f4.out h), (fun h => f5.out h), (fun h => f6.out h), (fun h => f7.out h), (fun h => f8.out h), (fun h => f9.out h), (fun h => f10.out h), (fun _ => rfl), (fun h => f12.out h)⟩
        · intro L vs W hlen hL hD hI K hK
          obtain ⟨x0, x1, x2, x3, x4, x5, x6, x7, x8, x9, x10, x11, x12, rfl⟩ := len13 hlen
          have hG := hI.1
          replace hI := hI.2
          have f0 := hide hI.1
          replace hI := hI.2
          have f1 := hide hI.1
          replace hI := hI.2
          have f2 := hide hI.1
          replace hI := hI.2
          have f3 := hide hI.1
          replace hI := hI.2
          have f4 := hide hI.1
          replace hI := hI.2
          have f5 := hide hI.1
          replace hI := hI.2
          have f6 := hide hI.1
          replace hI := hI.2
          have f7 := hide hI.1
          replace hI := hI.2
          have f8 := hide hI.1
          replace hI := hI.2
          have f9 := hide hI.1
          replace hI := hI.2
          have f10 := hide hI.1
          replace hI := hI.2
          have f11 := hide hI.1
          replace hI := hI.2
          have f12 := hide hI
          clear hI
          have g10 := f10.out (hD.on 10 (by kernel_rfl))
          obtain rfl := f11.out (hD.on 11 (by kernel_rfl))
          try simp only [puts, Act.put, List.setIfInBounds_toArray, List.set_cons_zero, List.set_cons_succ]
          obtain ⟨h7, y', nv', bv', rfl, hi⟩ := g10
          obtain ⟨hin, hib⟩ := hi hL
          obtain ⟨ya, yn, rfl, -⟩ := id hin
          obtain ⟨za, zn, rfl, -⟩ := id hib
          have hbW := hG.2 hL
          obtain ⟨z0, z1, z2, z3, z4, z5, v0, v1, v2, v3, v4, v5, c0, c1, c2, c3, c4, c5⟩ := HFZ.out _ hbW
          go_simp
          have hb : True := trivial
          exact hK.out _ undef _ (by simp only [puts, Act.put, List.setIfInBounds_toArray, List.set_cons_zero, List.set_cons_succ] <;> rfl) ⟨⟨blk_six hG.1 hgO, fun h => by cases h⟩, (fun h => f0.out h), (fun h => f1.out h), (fun h => f2.out h), (fun h => f3.out h), (fun h => f4.out h), (fun h => f5.out h), (fun h => f6.out h), (fun h => f7.out h), (fun h => f8.out h), (fun h => f9.out h), (fun h => (fun h => let ⟨a, y', nv', bv', b, _⟩ := h; ⟨a, y', nv', bv', b, fun h => by cases h⟩) (f10.out h)), (fun h => f11.out h), (fun _ => ⟨⟨h7, hD.on 10 (by kernel_rfl)⟩, W, y', _, _, hG.2 hL, hin, hib, rfl⟩)⟩
      intro L vs W hlen hall hI
      obtain ⟨x0, x1, x2, x3, x4, x5, x6, x7, x8, x9, x10, x11, x12, rfl⟩ := len13 hlen
      have hG := hI.1
      replace hI := hI.2
      have f0 := hide hI.1
      replace hI := hI.2
      have f1 := hide hI.1
      replace hI := hI.2
      have f2 := hide hI.1
      replace hI := hI.2
      have f3 := hide hI.1
      replace hI := hI.2
      have f4 := hide hI.1
      replace hI := hI.2
      have f5 := hide hI.1
      replace hI := hI.2
      have f6 := hide hI.1
      replace hI := hI.2
      have f7 := hide hI.1
      replace hI := hI.2
      have f8 := hide hI.1
      replace hI := hI.2
      have f9 := hide hI.1
      replace hI := hI.2
      have f10 := hide hI.1
      replace hI := hI.2
      have f11 := hide hI.1
      replace hI := hI.2
      have f12 := hide hI
      clear hI
      obtain rfl := f0.out (hall 0 (by decide))
      obtain rfl := f1.out (hall 1 (by decide))
      obtain rfl := f2.out (hall 2 (by decide))
      obtain rfl := f3.out (hall 3 (by decide))
      obtain rfl := f4.out (hall 4 (by decide))
      obtain rfl := f5.out (hall 5 (by decide))
      obtain rfl := f6.out (hall 6 (by decide))
      obtain rfl := f7.out (hall 7 (by decide))
      obtain rfl := f8.out (hall 8 (by decide))
      obtain rfl := f9.out (hall 9 (by decide))
      have g10 := f10.out (hall 10 (by decide))
      obtain rfl := f11.out (hall 11 (by decide))
      have g12 := f12.out (hall 12 (by decide))
      have hal := hide hall
      clear hall f0 f1 f2 f3 f4 f5 f6 f7 f8 f9 f10 f11 f12
      try simp only [puts, Act.put, List.setIfInBounds_toArray, List.set_cons_zero, List.set_cons_succ]
      obtain ⟨-, Wp, y', nv', bv', hbp, hin, hib, rfl⟩ := g12
      have hoz := HPUT.out Wp hbp y' nv' bv' hin hib
      have bOz := blk_six (vs := [.slice (some ⟨g, 0, none⟩) c.clauses.length cn2, .slice ra2 c.repeals.length rn2, .slice fa2 c.facts.length fn2]) (bO.later hbp) hgO (u0 := .int .i64 y'.pub) (u1 := .int .i64 y'.sf) (u2 := .int .i64 y'.st) (u3 := nv') (u4 := bv') (u5 := .int .i64 y'.gives) (o := K * 6)
      have bRz := blk_six (bR.later hbp) (show w.heap.size + 1 ≠ g by omega) (u0 := .int .i64 y'.pub) (u1 := .int .i64 y'.sf) (u2 := .int .i64 y'.st) (u3 := nv') (u4 := bv') (u5 := .int .i64 y'.gives) (o := K * 6)
      have hwz := below_six (below2 hw2 hbp) (show w.heap.size ≤ g by omega) (u0 := .int .i64 y'.pub) (u1 := .int .i64 y'.sf) (u2 := .int .i64 y'.st) (u3 := nv') (u4 := bv') (u5 := .int .i64 y'.gives) (o := K * 6)
      generalize World.setCell (World.setCell _ ⟨g, K * 6 + 4, none⟩ _) ⟨g, K * 6 + 5, none⟩ _ = Wz at hoz bOz bRz hwz hG ⊢
      clear hG hal HPUT HPK HFZ HBC hbp bO bR hco hre0 hfa0 hcl0 hin hib g10 M0 M1 M2 M3 M4 M5
      have o0 := bOz.cell 0 rfl
      have o1 := bOz.cell 1 rfl
      have o2 := bOz.cell 2 rfl
      have r0 := bRz.cell 0 rfl
      have r1 := bRz.cell 1 rfl
      have r2 := bRz.cell 2 rfl
      have rf0 := bRz.frozen 0
      have rf1 := bRz.frozen 1
      have rf2 := bRz.frozen 2
      have HOZ := hide hoz
      have HWZ := hide hwz
      clear hoz hwz
      go_wp2_with fail
      have q1 := bRz.set 0 (.slice (some ⟨g, 0, none⟩) c.clauses.length cn2)
      have q2 := q1.set 1 (.slice ra2 c.repeals.length rn2)
      have q := q2.set 2 (.slice fa2 c.facts.length fn2)
      have x0 := q.cell 0 rfl
      have x1 := q.cell 1 rfl
      have x2 := q.cell 2 rfl
      refine bodyPost_ret (v := .agg #[.slice (some ⟨g, 0, none⟩) c.clauses.length cn2, .slice ra2 c.repeals.length rn2, .slice fa2 c.facts.length fn2]) (by simp [results, Tryz.results6, go_sem, x0, x1, x2]) rfl ?_
      exact ⟨_, _, _, _, rfl, ((((HOZ.out.setO bRz _).setO q1 _).setO q2 _).at (C := 0) (Nat.zero_le _) (Nat.zero_le _)).keeps (keeps_frm _ _), ((HWZ.out.setCell (p := ⟨w.heap.size + 1, 0, none⟩) (by show w.heap.size ≤ w.heap.size + 1; omega) _).setCell (p := ⟨w.heap.size + 1, 1, none⟩) (by show w.heap.size ≤ w.heap.size + 1; omega) _).setCell (p := ⟨w.heap.size + 1, 2, none⟩) (by show w.heap.size ≤ w.heap.size + 1; omega) _⟩
  · have h5d : decide (p < 5) = false := decide_eq_false h5
    by_cases hp5 : p = 5
    · subst hp5
      rcases Nat.eq_zero_or_pos c.repeals.length with hz | hpr
      · have hzd : decide (0 < c.repeals.length) = false := decide_eq_false (by omega)
        clear hz
        rcases Nat.eq_zero_or_pos c.facts.length with hf | hpf
        · have hfd : decide (0 < c.facts.length) = false := decide_eq_false (by omega)
          clear hf
          clear o0 o1 o2
          have bOz := bO
          have bRz := bR
          have hoz := hco
          have hwz := hw2
          have o0 := bOz.cell 0 rfl
          have o1 := bOz.cell 1 rfl
          have o2 := bOz.cell 2 rfl
          have r0 := bRz.cell 0 rfl
          have r1 := bRz.cell 1 rfl
          have r2 := bRz.cell 2 rfl
          have rf0 := bRz.frozen 0
          have rf1 := bRz.frozen 1
          have rf2 := bRz.frozen 2
          have HOZ := hide hoz
          have HWZ := hide hwz
          clear hoz hwz
          go_wp2_with fail
          have q1 := bRz.set 0 (.slice ca2 c.clauses.length cn2)
          have q2 := q1.set 1 (.slice ra2 c.repeals.length rn2)
          have q := q2.set 2 (.slice fa2 c.facts.length fn2)
          have x0 := q.cell 0 rfl
          have x1 := q.cell 1 rfl
          have x2 := q.cell 2 rfl
          refine bodyPost_ret (v := .agg #[.slice ca2 c.clauses.length cn2, .slice ra2 c.repeals.length rn2, .slice fa2 c.facts.length fn2]) (by simp [results, Tryz.results6, go_sem, x0, x1, x2]) rfl ?_
          exact ⟨_, _, _, _, rfl, ((((HOZ.out.setO bRz _).setO q1 _).setO q2 _).at (C := 0) (Nat.zero_le _) (Nat.zero_le _)).keeps (keeps_frm _ _), ((HWZ.out.setCell (p := ⟨w.heap.size + 1, 0, none⟩) (by show w.heap.size ≤ w.heap.size + 1; omega) _).setCell (p := ⟨w.heap.size + 1, 1, none⟩) (by show w.heap.size ≤ w.heap.size + 1; omega) _).setCell (p := ⟨w.heap.size + 1, 2, none⟩) (by show w.heap.size ≤ w.heap.size + 1; omega) _⟩
        · obtain ⟨g, rfl, hg1, hg2⟩ := own_some' hfa0 (by rw [List.length_map]; exact hpf)
          have hgO : w1.heap.size ≠ g := by omega
          have hK := HKB.out _ hpf
          obtain ⟨K, hKe⟩ : ∃ K : Nat, pk c.facts.length = K := ⟨(pk c.facts.length).toNat, by omega⟩
          have hKl : K < c.facts.length := by omega
          have hKI : (K : Int) < c.facts.length := by omega
          have HPK := hide (fun W => HPC.out c.facts.length W hpf (by omega))
          rw [hKe] at HPK
          have HAT := hide (fun W (hb : Below Y1.heap.size Y1 W) => rec_at (hco.fa.later' hb) (fun _ => rfl) (d := fact0) hKl 1 (by decide))
          have HPUT := hide (fun W (hb : Below Y1.heap.size Y1 W) => (hco.later hb).putFa hKl 1 (by decide) (.int .i64 n) { c.facts.getD K fact0 with says := n } rfl)
          clear hK hKe
          go_wp2_with fail
          refine wp_region_inv [some 82, some 83, some 84, some 85, some 86, some 87, some 88, some 89, some 90, some 91, none] (fun L vs W => match vs with | [x0, x1, x2, x3, x4, x5, x6, x7, x8, x9, x10] => (Blk W w1.heap.size [.slice ca2 c.clauses.length cn2, .slice ra2 c.repeals.length rn2, .slice (some ⟨g, 0, none⟩) c.facts.length fn2] 30 ∧ (L 10 = false → Below Y1.heap.size Y1 W)) ∧ (L 0 = true → x0 = .pointer (some ⟨w1.heap.size, 2, none⟩)) ∧ (L 1 = true → x1 = .slice (some ⟨g, 0, none⟩) c.facts.length fn2) ∧ (L 2 = true → x2 = .int .i64 at_) ∧ (L 3 = true → x3 = .pointer (some ⟨w1.heap.size, 2, none⟩)) ∧ (L 4 = true → x4 = .slice (some ⟨g, 0, none⟩) c.facts.length fn2) ∧ (L 5 = true → x5 = .int .i64 c.facts.length) ∧ (L 6 = true → x6 = .int .i64 K) ∧ (L 7 = true → x7 = .int .i64 n) ∧ (L 8 = true → x8 = .pointer (some ⟨g, K * 6, none⟩)) ∧ (L 9 = true → x9 = .pointer (some ⟨g, K * 6 + 1, none⟩)) ∧ (L 10 = true → ∃ Wp, Below Y1.heap.size Y1 Wp ∧ W = Wp.setCell ⟨g, K * 6 + 1, none⟩ (.int .i64 n)) | _ => False) [_, _, _, _, _, _, _, _, _, _, undef] (by kernel_rfl) (by kernel_rfl) rfl (by simp only [puts, Act.put, List.setIfInBounds_toArray, List.set_cons_zero, List.set_cons_succ] <;> rfl) ?_ ?_ ?_
          · exact ⟨⟨bO, fun _ => (Below.refl _ _).drew⟩, (fun h => by cases h), (fun h => by cases h), (fun h => by cases h), (fun h => by cases h), (fun h => by cases h), (fun h => by cases h), (fun h => by cases h), (fun h => by cases h), (fun h => by cases h), (fun h => by cases h), (fun h => by cases h)⟩
          · refine ⟨?_, ?_, ?_, ?_, ?_, ?_, ?_, ?_, ?_, ?_, ?_, trivial⟩
            · intro L vs W hlen hL hD hI K hK
              obtain ⟨x0, x1, x2, x3, x4, x5, x6, x7, x8, x9, x10, rfl⟩ := len11 hlen
              have hG := hI.1
              replace hI := hI.2
              have f0 := hide hI.1
              replace hI := hI.2
              have f1 := hide hI.1
              replace hI := hI.2
              have f2 := hide hI.1
              replace hI := hI.2
              have f3 := hide hI.1
              replace hI := hI.2
              have f4 := hide hI.1
              replace hI := hI.2
              have f5 := hide hI.1
              replace hI := hI.2
              have f6 := hide hI.1
              replace hI := hI.2
              have f7 := hide hI.1
              replace hI := hI.2
              have f8 := hide hI.1
              replace hI := hI.2
              have f9 := hide hI.1
              replace hI := hI.2
              have f10 := hide hI
              clear hI
              try simp only [puts, Act.put, List.setIfInBounds_toArray, List.set_cons_zero, List.set_cons_succ]
              try go_simp
              exact hK.out _ _ _ (by simp only [puts, Act.put, List.setIfInBounds_toArray, List.set_cons_zero, List.set_cons_succ] <;> rfl) ⟨hG, (fun _ => rfl), (fun h => f1.out h), (fun h => f2.out h), (fun h => f3.out h), (fun h => f4.out h), (fun h => f5.out h), (fun h => f6.out h), (fun h => f7.out h), (fun h => f8.out h), (fun h => f9.out h), (fun h => f10.out h)⟩
            · intro L vs W hlen hL hD hI K hK
              obtain ⟨x0, x1, x2, x3, x4, x5, x6, x7, x8, x9, x10, rfl⟩ := len11 hlen
              have hG := hI.1
              replace hI := hI.2
              have f0 := hide hI.1
              replace hI := hI.2
              have f1 := hide hI.1
              replace hI := hI.2
              have f2 := hide hI.1
              replace hI := hI.2
              have f3 := hide hI.1
              replace hI := hI.2
              have f4 := hide hI.1
              replace hI := hI.2
              have f5 := hide hI.1
              replace hI := hI.2
              have f6 := hide hI.1
              replace hI := hI.2
              have f7 := hide hI.1
              replace hI := hI.2
              have f8 := hide hI.1
              replace hI := hI.2
              have f9 := hide hI.1
              replace hI := hI.2
              have f10 := hide hI
              clear hI
              obtain rfl := f0.out (hD.on 0 (by kernel_rfl))
              try simp only [puts, Act.put, List.setIfInBounds_toArray, List.set_cons_zero, List.set_cons_succ]
              have p1 := hG.1.cell 2 rfl
              go_simp
              exact hK.out _ _ _ (by simp only [puts, Act.put, List.setIfInBounds_toArray, List.set_cons_zero, List.set_cons_succ] <;> rfl) ⟨hG, (fun h => f0.out h), (fun _ => rfl), (fun h => f2.out h), (fun h => f3.out h), (fun h => f4.out h), (fun h => f5.out h), (fun h => f6.out h), (fun h => f7.out h), (fun h => f8.out h), (fun h => f9.out h), (fun h => f10.out h)⟩
            · intro L vs W hlen hL hD hI K hK
              obtain ⟨x0, x1, x2, x3, x4, x5, x6, x7, x8, x9, x10, rfl⟩ := len11 hlen
              have hG := hI.1
              replace hI := hI.2
              have f0 := hide hI.1
              replace hI := hI.2
              have f1 := hide hI.1
              replace hI := hI.2
              have f2 := hide hI.1
              replace hI := hI.2
              have f3 := hide hI.1
              replace hI := hI.2
              have f4 := hide hI.1
              replace hI := hI.2
              have f5 := hide hI.1
              replace hI := hI.2
              have f6 := hide hI.1
              replace hI := hI.2
              have f7 := hide hI.1
              replace hI := hI.2
              have f8 := hide hI.1
              replace hI := hI.2
              have f9 := hide hI.1
              replace hI := hI.2
              have f10 := hide hI
              clear hI
              try simp only [puts, Act.put, List.setIfInBounds_toArray, List.set_cons_zero, List.set_cons_succ]
              try go_simp
              exact hK.out _ _ _ (by simp only [puts, Act.put, List.setIfInBounds_toArray, List.set_cons_zero, List.set_cons_succ] <;> rfl) ⟨hG, (fun h => f0.out h), (fun h => f1.out h), (fun _ => rfl), (fun h => f3.out h), (fun h => f4.out h), (fun h => f5.out h), (fun h => f6.out h), (fun h => f7.out h), (fun h => f8.out h), (fun h => f9.out h), (fun h => f10.out h)⟩
            · intro L vs W hlen hL hD hI K hK
              obtain ⟨x0, x1, x2, x3, x4, x5, x6, x7, x8, x9, x10, rfl⟩ := len11 hlen
              have hG := hI.1
              replace hI := hI.2
              have f0 := hide hI.1
              replace hI := hI.2
              have f1 := hide hI.1
              replace hI := hI.2
              have f2 := hide hI.1
              replace hI := hI.2
              have f3 := hide hI.1
              replace hI := hI.2
              have f4 := hide hI.1
              replace hI := hI.2
              have f5 := hide hI.1
              replace hI := hI.2
              have f6 := hide hI.1
              replace hI := hI.2
              have f7 := hide hI.1
              replace hI := hI.2
              have f8 := hide hI.1
              replace hI := hI.2
              have f9 := hide hI.1
              replace hI := hI.2
              have f10 := hide hI
              clear hI
              try simp only [puts, Act.put, List.setIfInBounds_toArray, List.set_cons_zero, List.set_cons_succ]
              try go_simp
              exact hK.out _ _ _ (by simp only [puts, Act.put, List.setIfInBounds_toArray, List.set_cons_zero, List.set_cons_succ] <;> rfl) ⟨hG, (fun h => f0.out h), (fun h => f1.out h), (fun h => f2.out h), (fun _ => rfl), (fun h => f4.out h), (fun h => f5.out h), (fun h => f6.out h), (fun h => f7.out h), (fun h => f8.out h), (fun h => f9.out h), (fun h => f10.out h)⟩
            · intro L vs W hlen hL hD hI K hK
              obtain ⟨x0, x1, x2, x3, x4, x5, x6, x7, x8, x9, x10, rfl⟩ := len11 hlen
              have hG := hI.1
              replace hI := hI.2
              have f0 := hide hI.1
              replace hI := hI.2
              have f1 := hide hI.1
              replace hI := hI.2
              have f2 := hide hI.1
              replace hI := hI.2
              have f3 := hide hI.1
              replace hI := hI.2
              have f4 := hide hI.1
              replace hI := hI.2
              have f5 := hide hI.1
              replace hI := hI.2
              have f6 := hide hI.1
              replace hI := hI.2
              have f7 := hide hI.1
              replace hI := hI.2
              have f8 := hide hI.1
              replace hI := hI.2
              have f9 := hide hI.1
              replace hI := hI.2
              have f10 := hide hI
              clear hI
              obtain rfl := f3.out (hD.on 3 (by kernel_rfl))
              try simp only [puts, Act.put, List.setIfInBounds_toArray, List.set_cons_zero, List.set_cons_succ]
              have p1 := hG.1.cell 2 rfl
              go_simp
              exact hK.out _ _ _ (by simp only [puts, Act.put, List.setIfInBounds_toArray, List.set_cons_zero, List.set_cons_succ] <;> rfl) ⟨hG, (fun h => f0.out h), (fun h => f1.out h), (fun h => f2.out h), (fun h => f3.out h), (fun _ => rfl), (fun h => f5.out h), (fun h => f6.out h), (fun h => f7.out h), (fun h => f8.out h), (fun h => f9.out h), (fun h => f10.out h)⟩
            · intro L vs W hlen hL hD hI K hK
              obtain ⟨x0, x1, x2, x3, x4, x5, x6, x7, x8, x9, x10, rfl⟩ := len11 hlen
              have hG := hI.1
              replace hI := hI.2
              have f0 := hide hI.1
              replace hI := hI.2
              have f1 := hide hI.1
              replace hI := hI.2
              have f2 := hide hI.1
              replace hI := hI.2
              have f3 := hide hI.1
              replace hI := hI.2
              have f4 := hide hI.1
              replace hI := hI.2
              have f5 := hide hI.1
              replace hI := hI.2
              have f6 := hide hI.1
              replace hI := hI.2
              have f7 := hide hI.1
              replace hI := hI.2
              have f8 := hide hI.1
              replace hI := hI.2
              have f9 := hide hI.1
              replace hI := hI.2
              have f10 := hide hI
              clear hI
              obtain rfl := f4.out (hD.on 4 (by kernel_rfl))
              try simp only [puts, Act.put, List.setIfInBounds_toArray, List.set_cons_zero, List.set_cons_succ]
              try go_simp
              exact hK.out _ _ _ (by simp only [puts, Act.put, List.setIfInBounds_toArray, List.set_cons_zero, List.set_cons_succ] <;> rfl) ⟨hG, (fun h => f0.out h), (fun h => f1.out h), (fun h => f2.out h), (fun h => f3.out h), (fun h => f4.out h), (fun _ => rfl), (fun h => f6.out h), (fun h => f7.out h), (fun h => f8.out h), (fun h => f9.out h), (fun h => f10.out h)⟩
            · intro L vs W hlen hL hD hI K hK
              obtain ⟨x0, x1, x2, x3, x4, x5, x6, x7, x8, x9, x10, rfl⟩ := len11 hlen
              have hG := hI.1
              replace hI := hI.2
              have f0 := hide hI.1
              replace hI := hI.2
              have f1 := hide hI.1
              replace hI := hI.2
              have f2 := hide hI.1
              replace hI := hI.2
              have f3 := hide hI.1
              replace hI := hI.2
              have f4 := hide hI.1
              replace hI := hI.2
              have f5 := hide hI.1
              replace hI := hI.2
              have f6 := hide hI.1
              replace hI := hI.2
              have f7 := hide hI.1
              replace hI := hI.2
              have f8 := hide hI.1
              replace hI := hI.2
              have f9 := hide hI.1
              replace hI := hI.2
              have f10 := hide hI
              clear hI
              obtain rfl := f2.out (hD.on 2 (by kernel_rfl))
              obtain rfl := f5.out (hD.on 5 (by kernel_rfl))
              try simp only [puts, Act.put, List.setIfInBounds_toArray, List.set_cons_zero, List.set_cons_succ]
              try go_simp
              refine (HPK.out _).mono ?_
              rintro e W' ⟨rfl, rfl⟩
              try go_simp
              exact hK.out _ _ _ (by simp only [puts, Act.put, List.setIfInBounds_toArray, List.set_cons_zero, List.set_cons_succ] <;> rfl) ⟨hG, (fun h => f0.out h), (fun h => f1.out h), (fun h => f2.out h), (fun h => f3.out h), (fun h => f4.out h), (fun h => f5.out h), (fun _ => rfl), (fun h => f7.out h), (fun h => f8.out h), (fun h => f9.out h), (fun h => f10.out h)⟩
            · intro L vs W hlen hL hD hI K hK
              obtain ⟨x0, x1, x2, x3, x4, x5, x6, x7, x8, x9, x10, rfl⟩ := len11 hlen
              have hG := hI.1
              replace hI := hI.2
              have f0 := hide hI.1
              replace hI := hI.2
              have f1 := hide hI.1
              replace hI := hI.2
              have f2 := hide hI.1
              replace hI := hI.2
              have f3 := hide hI.1
              replace hI := hI.2
              have f4 := hide hI.1
              replace hI := hI.2
              have f5 := hide hI.1
              replace hI := hI.2
              have f6 := hide hI.1
              replace hI := hI.2
              have f7 := hide hI.1
              replace hI := hI.2
              have f8 := hide hI.1
              replace hI := hI.2
              have f9 := hide hI.1
              replace hI := hI.2
              have f10 := hide hI
              clear hI
              try simp only [puts, Act.put, List.setIfInBounds_toArray, List.set_cons_zero, List.set_cons_succ]
              try go_simp
              exact hK.out _ _ _ (by simp only [puts, Act.put, List.setIfInBounds_toArray, List.set_cons_zero, List.set_cons_succ] <;> rfl) ⟨hG, (fun h => f0.out h), (fun h => f1.out h), (fun h => f2.out h), (fun h => f3.out h), (fun h => f4.out h), (fun h => f5.out h), (fun h => f6.out h), (fun _ => rfl), (fun h => f8.out h), (fun h => f9.out h), (fun h => f10.out h)⟩
            · intro L vs W hlen hL hD hI K hK
              obtain ⟨x0, x1, x2, x3, x4, x5, x6, x7, x8, x9, x10, rfl⟩ := len11 hlen
              have hG := hI.1
              replace hI := hI.2
              have f0 := hide hI.1
              replace hI := hI.2
              have f1 := hide hI.1
              replace hI := hI.2
              have f2 := hide hI.1
              replace hI := hI.2
              have f3 := hide hI.1
              replace hI := hI.2
              have f4 := hide hI.1
              replace hI := hI.2
              have f5 := hide hI.1
              replace hI := hI.2
              have f6 := hide hI.1
              replace hI := hI.2
              have f7 := hide hI.1
              replace hI := hI.2
              have f8 := hide hI.1
              replace hI := hI.2
              have f9 := hide hI.1
              replace hI := hI.2
              have f10 := hide hI
              clear hI
              obtain rfl := f1.out (hD.on 1 (by kernel_rfl))
              obtain rfl := f6.out (hD.on 6 (by kernel_rfl))
              try simp only [puts, Act.put, List.setIfInBounds_toArray, List.set_cons_zero, List.set_cons_succ]
              try go_simp
              exact hK.out _ _ _ (by simp only [puts, Act.put, List.setIfInBounds_toArray, List.set_cons_zero, List.set_cons_succ] <;> rfl) ⟨hG, (fun h => f0.out h), (fun h => f1.out h), (fun h => f2.out h), (fun h => f3.out h), (fun h => f4.out h), (fun h => f5.out h), (fun h => f6.out h), (fun h => f7.out h), (fun _ => rfl), (fun h => f9.out h), (fun h => f10.out h)⟩
            · intro L vs W hlen hL hD hI K hK
              obtain ⟨x0, x1, x2, x3, x4, x5, x6, x7, x8, x9, x10, rfl⟩ := len11 hlen
              have hG := hI.1
              replace hI := hI.2
              have f0 := hide hI.1
              replace hI := hI.2
              have f1 := hide hI.1
              replace hI := hI.2
              have f2 := hide hI.1
              replace hI := hI.2
              have f3 := hide hI.1
              replace hI := hI.2
              have f4 := hide hI.1
              replace hI := hI.2
              have f5 := hide hI.1
              replace hI := hI.2
              have f6 := hide hI.1
              replace hI := hI.2
              have f7 := hide hI.1
              replace hI := hI.2
              have f8 := hide hI.1
              replace hI := hI.2
              have f9 := hide hI.1
              replace hI := hI.2
              have f10 := hide hI
              clear hI
              obtain rfl := f8.out (hD.on 8 (by kernel_rfl))
              try simp only [puts, Act.put, List.setIfInBounds_toArray, List.set_cons_zero, List.set_cons_succ]
              try go_simp
              exact hK.out _ _ _ (by simp only [puts, Act.put, List.setIfInBounds_toArray, List.set_cons_zero, List.set_cons_succ] <;> rfl) ⟨hG, (fun h => f0.out h), (fun h => f1.out h), (fun h => f2.out h), (fun h => f3.out h), (fun h => f4.out h), (fun h => f5.out h), (fun h => f6.out h), (fun h => f7.out h), (fun h => f8.out h), (fun _ => rfl), (fun h => f10.out h)⟩
            · intro L vs W hlen hL hD hI K hK
              obtain ⟨x0, x1, x2, x3, x4, x5, x6, x7, x8, x9, x10, rfl⟩ := len11 hlen
              have hG := hI.1
              replace hI := hI.2
              have f0 := hide hI.1
              replace hI := hI.2
              have f1 := hide hI.1
              replace hI := hI.2
              have f2 := hide hI.1
              replace hI := hI.2
              have f3 := hide hI.1
              replace hI := hI.2
              have f4 := hide hI.1
              replace hI := hI.2
              have f5 := hide hI.1
              replace hI := hI.2
              have f6 := hide hI.1
              replace hI := hI.2
              have f7 := hide hI.1
              replace hI := hI.2
              have f8 := hide hI.1
              replace hI := hI.2
              have f9 := hide hI.1
              replace hI := hI.2
              have f10 := hide hI
              clear hI
              obtain rfl := f7.out (hD.on 7 (by kernel_rfl))
              obtain rfl := f9.out (hD.on 9 (by kernel_rfl))
              try simp only [puts, Act.put, List.setIfInBounds_toArray, List.set_cons_zero, List.set_cons_succ]
              have hbW := hG.2 hL
              obtain ⟨z0, v0, zc⟩ := HAT.out _ hbW
              go_simp
              have hb : True := trivial
              exact hK.out _ undef _ (by simp only [puts, Act.put, List.setIfInBounds_toArray, List.set_cons_zero, List.set_cons_succ] <;> rfl) ⟨⟨hG.1.other hgO _ _, fun h => by cases h⟩, (fun h => f0.out h), (fun h => f1.out h), (fun h => f2.out h), (fun h => f3.out h), (fun h => f4.out h), (fun h => f5.out h), (fun h => f6.out h), (fun h => f7.out h), (fun h => f8.out h), (fun h => f9.out h), (fun _ => ⟨W, hG.2 hL, rfl⟩)⟩
          intro L vs W hlen hall hI
          obtain ⟨x0, x1, x2, x3, x4, x5, x6, x7, x8, x9, x10, rfl⟩ := len11 hlen
          have hG := hI.1
          replace hI := hI.2
          have f0 := hide hI.1
          replace hI := hI.2
          have f1 := hide hI.1
          replace hI := hI.2
          have f2 := hide hI.1
          replace hI := hI.2
          have f3 := hide hI.1
          replace hI := hI.2
          have f4 := hide hI.1
          replace hI := hI.2
          have f5 := hide hI.1
          replace hI := hI.2
          have f6 := hide hI.1
          replace hI := hI.2
          have f7 := hide hI.1
          replace hI := hI.2
          have f8 := hide hI.1
          replace hI := hI.2
          have f9 := hide hI.1
          replace hI := hI.2
          have f10 := hide hI
          clear hI
          obtain rfl := f0.out (hall 0 (by decide))
          obtain rfl := f1.out (hall 1 (by decide))
          obtain rfl := f2.out (hall 2 (by decide))
          obtain rfl := f3.out (hall 3 (by decide))
          obtain rfl := f4.out (hall 4 (by decide))
          obtain rfl := f5.out (hall 5 (by decide))
          obtain rfl := f6.out (hall 6 (by decide))
          obtain rfl := f7.out (hall 7 (by decide))
          obtain rfl := f8.out (hall 8 (by decide))
          obtain rfl := f9.out (hall 9 (by decide))
          have g10 := f10.out (hall 10 (by decide))
          have hal := hide hall
          clear hall f0 f1 f2 f3 f4 f5 f6 f7 f8 f9 f10
          try simp only [puts, Act.put, List.setIfInBounds_toArray, List.set_cons_zero, List.set_cons_succ]
          obtain ⟨Wp, hbp, rfl⟩ := g10
          have hoz := HPUT.out Wp hbp
          have bOz := (bO.later hbp).other hgO (K * 6 + 1) (.int .i64 n)
          have bRz := (bR.later hbp).other (show w.heap.size + 1 ≠ g by omega) (K * 6 + 1) (.int .i64 n)
          have hwz : Below w.heap.size w (Wp.setCell ⟨g, K * 6 + 1, none⟩ (.int .i64 n)) := (below2 hw2 hbp).setCell (p := ⟨g, K * 6 + 1, none⟩) (by show w.heap.size ≤ g; omega) _
          generalize Wp.setCell ⟨g, K * 6 + 1, none⟩ (.int .i64 n) = Wz at hoz bOz bRz hwz hG ⊢
          clear hG hal HPUT HAT HPK hbp bO bR hco hre0 hfa0 hcl0
          have o0 := bOz.cell 0 rfl
          have o1 := bOz.cell 1 rfl
          have o2 := bOz.cell 2 rfl
          have r0 := bRz.cell 0 rfl
          have r1 := bRz.cell 1 rfl
          have r2 := bRz.cell 2 rfl
          have rf0 := bRz.frozen 0
          have rf1 := bRz.frozen 1
          have rf2 := bRz.frozen 2
          have HOZ := hide hoz
          have HWZ := hide hwz
          clear hoz hwz
          go_wp2_with fail
          have q1 := bRz.set 0 (.slice ca2 c.clauses.length cn2)
          have q2 := q1.set 1 (.slice ra2 c.repeals.length rn2)
          have q := q2.set 2 (.slice (some ⟨g, 0, none⟩) c.facts.length fn2)
          have x0 := q.cell 0 rfl
          have x1 := q.cell 1 rfl
          have x2 := q.cell 2 rfl
          refine bodyPost_ret (v := .agg #[.slice ca2 c.clauses.length cn2, .slice ra2 c.repeals.length rn2, .slice (some ⟨g, 0, none⟩) c.facts.length fn2]) (by simp [results, Tryz.results6, go_sem, x0, x1, x2]) rfl ?_
          exact ⟨_, _, _, _, rfl, ((((HOZ.out.setO bRz _).setO q1 _).setO q2 _).at (C := 0) (Nat.zero_le _) (Nat.zero_le _)).keeps (keeps_frm _ _), ((HWZ.out.setCell (p := ⟨w.heap.size + 1, 0, none⟩) (by show w.heap.size ≤ w.heap.size + 1; omega) _).setCell (p := ⟨w.heap.size + 1, 1, none⟩) (by show w.heap.size ≤ w.heap.size + 1; omega) _).setCell (p := ⟨w.heap.size + 1, 2, none⟩) (by show w.heap.size ≤ w.heap.size + 1; omega) _⟩
      · obtain ⟨g, rfl, hg1, hg2⟩ := own_some' hre0 (by rw [List.length_map]; exact hpr)
        have hgO : w1.heap.size ≠ g := by omega
        have hK := HKB.out _ hpr
        obtain ⟨K, hKe⟩ : ∃ K : Nat, pk c.repeals.length = K := ⟨(pk c.repeals.length).toNat, by omega⟩
        have hKl : K < c.repeals.length := by omega
        have hKI : (K : Int) < c.repeals.length := by omega
        have HPK := hide (fun W => HPC.out c.repeals.length W hpr (by omega))
        rw [hKe] at HPK
        have HAT := hide (fun W (hb : Below Y1.heap.size Y1 W) => rec_at (hco.re.later' hb) (fun _ => rfl) (d := repeal0) hKl 0 (by decide))
        have HPUT := hide (fun W (hb : Below Y1.heap.size Y1 W) => (hco.later hb).putRe hKl 0 (by decide) (.int .i64 n) { c.repeals.getD K repeal0 with clause := n } rfl)
        clear hK hKe
        go_wp2_with fail
        refine wp_region_inv [some 49, some 50, some 51, some 52, some 53, some 54, some 55, some 56, some 57, some 58, none] (fun L vs W => match vs with | [x0, x1, x2, x3, x4, x5, x6, x7, x8, x9, x10] => (Blk W w1.heap.size [.slice ca2 c.clauses.length cn2, .slice (some ⟨g, 0, none⟩) c.repeals.length rn2, .slice fa2 c.facts.length fn2] 30 ∧ (L 10 = false → Below Y1.heap.size Y1 W)) ∧ (L 0 = true → x0 = .pointer (some ⟨w1.heap.size, 1, none⟩)) ∧ (L 1 = true → x1 = .slice (some ⟨g, 0, none⟩) c.repeals.length rn2) ∧ (L 2 = true → x2 = .int .i64 at_) ∧ (L 3 = true → x3 = .pointer (some ⟨w1.heap.size, 1, none⟩)) ∧ (L 4 = true → x4 = .slice (some ⟨g, 0, none⟩) c.repeals.length rn2) ∧ (L 5 = true → x5 = .int .i64 c.repeals.length) ∧ (L 6 = true → x6 = .int .i64 K) ∧ (L 7 = true → x7 = .int .i64 n) ∧ (L 8 = true → x8 = .pointer (some ⟨g, K * 3, none⟩)) ∧ (L 9 = true → x9 = .pointer (some ⟨g, K * 3, none⟩)) ∧ (L 10 = true → ∃ Wp, Below Y1.heap.size Y1 Wp ∧ W = Wp.setCell ⟨g, K * 3, none⟩ (.int .i64 n)) | _ => False) [_, _, _, _, _, _, _, _, _, _, undef] (by kernel_rfl) (by kernel_rfl) rfl (by simp only [puts, Act.put, List.setIfInBounds_toArray, List.set_cons_zero, List.set_cons_succ] <;> rfl) ?_ ?_ ?_
        · exact ⟨⟨bO, fun _ => (Below.refl _ _).drew⟩, (fun h => by cases h), (fun h => by cases h), (fun h => by cases h), (fun h => by cases h), (fun h => by cases h), (fun h => by cases h), (fun h => by cases h), (fun h => by cases h), (fun h => by cases h), (fun h => by cases h), (fun h => by cases h)⟩
        · refine ⟨?_, ?_, ?_, ?_, ?_, ?_, ?_, ?_, ?_, ?_, ?_, trivial⟩
          · intro L vs W hlen hL hD hI K hK
            obtain ⟨x0, x1, x2, x3, x4, x5, x6, x7, x8, x9, x10, rfl⟩ := len11 hlen
            have hG := hI.1
            replace hI := hI.2
            have f0 := hide hI.1
            replace hI := hI.2
            have f1 := hide hI.1
            replace hI := hI.2
            have f2 := hide hI.1
            replace hI := hI.2
            have f3 := hide hI.1
            replace hI := hI.2
            have f4 := hide hI.1
            replace hI := hI.2
            have f5 := hide hI.1
            replace hI := hI.2
            have f6 := hide hI.1
            replace hI := hI.2
            have f7 := hide hI.1
            replace hI := hI.2
            have f8 := hide hI.1
            replace hI := hI.2
            have f9 := hide hI.1
            replace hI := hI.2
            have f10 := hide hI
            clear hI
            try simp only [puts, Act.put, List.setIfInBounds_toArray, List.set_cons_zero, List.set_cons_succ]
            try go_simp
            exact hK.out _ _ _ (by simp only [puts, Act.put, List.setIfInBounds_toArray, List.set_cons_zero, List.set_cons_succ] <;> rfl) ⟨hG, (fun _ => rfl), (fun h => f1.out h), (fun h => f2.out h), (fun h => f3.out h), (fun h => f4.out h), (fun h => f5.out h), (fun h => f6.out h), (fun h => f7.out h), (fun h => f8.out h), (fun h => f9.out h), (fun h => f10.out h)⟩
          · intro L vs W hlen hL hD hI K hK
            obtain ⟨x0, x1, x2, x3, x4, x5, x6, x7, x8, x9, x10, rfl⟩ := len11 hlen
            have hG := hI.1
            replace hI := hI.2
            have f0 := hide hI.1
            replace hI := hI.2
            have f1 := hide hI.1
            replace hI := hI.2
            have f2 := hide hI.1
            replace hI := hI.2
            have f3 := hide hI.1
            replace hI := hI.2
            have f4 := hide hI.1
            replace hI := hI.2
            have f5 := hide hI.1
            replace hI := hI.2
            have f6 := hide hI.1
            replace hI := hI.2
            have f7 := hide hI.1
            replace hI := hI.2
            have f8 := hide hI.1
            replace hI := hI.2
            have f9 := hide hI.1
            replace hI := hI.2
            have f10 := hide hI
            clear hI
            obtain rfl := f0.out (hD.on 0 (by kernel_rfl))
            try simp only [puts, Act.put, List.setIfInBounds_toArray, List.set_cons_zero, List.set_cons_succ]
            have p1 := hG.1.cell 1 rfl
            go_simp
            exact hK.out _ _ _ (by simp only [puts, Act.put, List.setIfInBounds_toArray, List.set_cons_zero, List.set_cons_succ] <;> rfl) ⟨hG, (fun h => f0.out h), (fun _ => rfl), (fun h => f2.out h), (fun h => f3.out h), (fun h => f4.out h), (fun h => f5.out h), (fun h => f6.out h), (fun h => f7.out h), (fun h => f8.out h), (fun h => f9.out h), (fun h => f10.out h)⟩
          · intro L vs W hlen hL hD hI K hK
            obtain ⟨x0, x1, x2, x3, x4, x5, x6, x7, x8, x9, x10, rfl⟩ := len11 hlen
            have hG := hI.1
            replace hI := hI.2
            have f0 := hide hI.1
            replace hI := hI.2
            have f1 := hide hI.1
            replace hI := hI.2
            have f2 := hide hI.1
            replace hI := hI.2
            have f3 := hide hI.1
            replace hI := hI.2
            have f4 := hide hI.1
            replace hI := hI.2
            have f5 := hide hI.1
            replace hI := hI.2
            have f6 := hide hI.1
            replace hI := hI.2
            have f7 := hide hI.1
            replace hI := hI.2
            have f8 := hide hI.1
            replace hI := hI.2
            have f9 := hide hI.1
            replace hI := hI.2
            have f10 := hide hI
            clear hI
            try simp only [puts, Act.put, List.setIfInBounds_toArray, List.set_cons_zero, List.set_cons_succ]
            try go_simp
            exact hK.out _ _ _ (by simp only [puts, Act.put, List.setIfInBounds_toArray, List.set_cons_zero, List.set_cons_succ] <;> rfl) ⟨hG, (fun h => f0.out h), (fun h => f1.out h), (fun _ => rfl), (fun h => f3.out h), (fun h => f4.out h), (fun h => f5.out h), (fun h => f6.out h), (fun h => f7.out h), (fun h => f8.out h), (fun h => f9.out h), (fun h => f10.out h)⟩
          · intro L vs W hlen hL hD hI K hK
            obtain ⟨x0, x1, x2, x3, x4, x5, x6, x7, x8, x9, x10, rfl⟩ := len11 hlen
            have hG := hI.1
            replace hI := hI.2
            have f0 := hide hI.1
            replace hI := hI.2
            have f1 := hide hI.1
            replace hI := hI.2
            have f2 := hide hI.1
            replace hI := hI.2
            have f3 := hide hI.1
            replace hI := hI.2
            have f4 := hide hI.1
            replace hI := hI.2
            have f5 := hide hI.1
            replace hI := hI.2
            have f6 := hide hI.1
            replace hI := hI.2
            have f7 := hide hI.1
            replace hI := hI.2
            have f8 := hide hI.1
            replace hI := hI.2
            have f9 := hide hI.1
            replace hI := hI.2
            have f10 := hide hI
            clear hI
            try simp only [puts, Act.put, List.setIfInBounds_toArray, List.set_cons_zero, List.set_cons_succ]
            try go_simp
            exact hK.out _ _ _ (by simp only [puts, Act.put, List.setIfInBounds_toArray, List.set_cons_zero, List.set_cons_succ] <;> rfl) ⟨hG, (fun h => f0.out h), (fun h => f1.out h), (fun h => f2.out h), (fun _ => rfl), (fun h => f4.out h), (fun h => f5.out h), (fun h => f6.out h), (fun h => f7.out h), (fun h => f8.out h), (fun h => f9.out h), (fun h => f10.out h)⟩
          · intro L vs W hlen hL hD hI K hK
            obtain ⟨x0, x1, x2, x3, x4, x5, x6, x7, x8, x9, x10, rfl⟩ := len11 hlen
            have hG := hI.1
            replace hI := hI.2
            have f0 := hide hI.1
            replace hI := hI.2
            have f1 := hide hI.1
            replace hI := hI.2
            have f2 := hide hI.1
            replace hI := hI.2
            have f3 := hide hI.1
            replace hI := hI.2
            have f4 := hide hI.1
            replace hI := hI.2
            have f5 := hide hI.1
            replace hI := hI.2
            have f6 := hide hI.1
            replace hI := hI.2
            have f7 := hide hI.1
            replace hI := hI.2
            have f8 := hide hI.1
            replace hI := hI.2
            have f9 := hide hI.1
            replace hI := hI.2
            have f10 := hide hI
            clear hI
            obtain rfl := f3.out (hD.on 3 (by kernel_rfl))
            try simp only [puts, Act.put, List.setIfInBounds_toArray, List.set_cons_zero, List.set_cons_succ]
            have p1 := hG.1.cell 1 rfl
            go_simp
            exact hK.out _ _ _ (by simp only [puts, Act.put, List.setIfInBounds_toArray, List.set_cons_zero, List.set_cons_succ] <;> rfl) ⟨hG, (fun h => f0.out h), (fun h => f1.out h), (fun h => f2.out h), (fun h => f3.out h), (fun _ => rfl), (fun h => f5.out h), (fun h => f6.out h), (fun h => f7.out h), (fun h => f8.out h), (fun h => f9.out h), (fun h => f10.out h)⟩
          · intro L vs W hlen hL hD hI K hK
            obtain ⟨x0, x1, x2, x3, x4, x5, x6, x7, x8, x9, x10, rfl⟩ := len11 hlen
            have hG := hI.1
            replace hI := hI.2
            have f0 := hide hI.1
            replace hI := hI.2
            have f1 := hide hI.1
            replace hI := hI.2
            have f2 := hide hI.1
            replace hI := hI.2
            have f3 := hide hI.1
            replace hI := hI.2
            have f4 := hide hI.1
            replace hI := hI.2
            have f5 := hide hI.1
            replace hI := hI.2
            have f6 := hide hI.1
            replace hI := hI.2
            have f7 := hide hI.1
            replace hI := hI.2
            have f8 := hide hI.1
            replace hI := hI.2
            have f9 := hide hI.1
            replace hI := hI.2
            have f10 := hide hI
            clear hI
            obtain rfl := f4.out (hD.on 4 (by kernel_rfl))
            try simp only [puts, Act.put, List.setIfInBounds_toArray, List.set_cons_zero, List.set_cons_succ]
            try go_simp
            exact hK.out _ _ _ (by simp only [puts, Act.put, List.setIfInBounds_toArray, List.set_cons_zero, List.set_cons_succ] <;> rfl) ⟨hG, (fun h => f0.out h), (fun h => f1.out h), (fun h => f2.out h), (fun h => f3.out h), (fun h => f4.out h), (fun _ => rfl), (fun h => f6.out h), (fun h => f7.out h), (fun h => f8.out h), (fun h => f9.out h), (fun h => f10.out h)⟩
          · intro L vs W hlen hL hD hI K hK
            obtain ⟨x0, x1, x2, x3, x4, x5, x6, x7, x8, x9, x10, rfl⟩ := len11 hlen
            have hG := hI.1
            replace hI := hI.2
            have f0 := hide hI.1
            replace hI := hI.2
            have f1 := hide hI.1
            replace hI := hI.2
            have f2 := hide hI.1
            replace hI := hI.2
            have f3 := hide hI.1
            replace hI := hI.2
            have f4 := hide hI.1
            replace hI := hI.2
            have f5 := hide hI.1
            replace hI := hI.2
            have f6 := hide hI.1
            replace hI := hI.2
            have f7 := hide hI.1
            replace hI := hI.2
            have f8 := hide hI.1
            replace hI := hI.2
            have f9 := hide hI.1
            replace hI := hI.2
            have f10 := hide hI
            clear hI
            obtain rfl := f2.out (hD.on 2 (by kernel_rfl))
            obtain rfl := f5.out (hD.on 5 (by kernel_rfl))
            try simp only [puts, Act.put, List.setIfInBounds_toArray, List.set_cons_zero, List.set_cons_succ]
            try go_simp
            refine (HPK.out _).mono ?_
            rintro e W' ⟨rfl, rfl⟩
            try go_simp
            exact hK.out _ _ _ (by simp only [puts, Act.put, List.setIfInBounds_toArray, List.set_cons_zero, List.set_cons_succ] <;> rfl) ⟨hG, (fun h => f0.out h), (fun h => f1.out h), (fun h => f2.out h), (fun h => f3.out h), (fun h => f4.out h), (fun h => f5.out h), (fun _ => rfl), (fun h => f7.out h), (fun h => f8.out h), (fun h => f9.out h), (fun h => f10.out h)⟩
          · intro L vs W hlen hL hD hI K hK
            obtain ⟨x0, x1, x2, x3, x4, x5, x6, x7, x8, x9, x10, rfl⟩ := len11 hlen
            have hG := hI.1
            replace hI := hI.2
            have f0 := hide hI.1
            replace hI := hI.2
            have f1 := hide hI.1
            replace hI := hI.2
            have f2 := hide hI.1
            replace hI := hI.2
            have f3 := hide hI.1
            replace hI := hI.2
            have f4 := hide hI.1
            replace hI := hI.2
            have f5 := hide hI.1
            replace hI := hI.2
            have f6 := hide hI.1
            replace hI := hI.2
            have f7 := hide hI.1
            replace hI := hI.2
            have f8 := hide hI.1
            replace hI := hI.2
            have f9 := hide hI.1
            replace hI := hI.2
            have f10 := hide hI
            clear hI
            try simp only [puts, Act.put, List.setIfInBounds_toArray, List.set_cons_zero, List.set_cons_succ]
            try go_simp
            exact hK.out _ _ _ (by simp only [puts, Act.put, List.setIfInBounds_toArray, List.set_cons_zero, List.set_cons_succ] <;> rfl) ⟨hG, (fun h => f0.out h), (fun h => f1.out h), (fun h => f2.out h), (fun h => f3.out h), (fun h => f4.out h), (fun h => f5.out h), (fun h => f6.out h), (fun _ => rfl), (fun h => f8.out h), (fun h => f9.out h), (fun h => f10.out h)⟩
          · intro L vs W hlen hL hD hI K hK
            obtain ⟨x0, x1, x2, x3, x4, x5, x6, x7, x8, x9, x10, rfl⟩ := len11 hlen
            have hG := hI.1
            replace hI := hI.2
            have f0 := hide hI.1
            replace hI := hI.2
            have f1 := hide hI.1
            replace hI := hI.2
            have f2 := hide hI.1
            replace hI := hI.2
            have f3 := hide hI.1
            replace hI := hI.2
            have f4 := hide hI.1
            replace hI := hI.2
            have f5 := hide hI.1
            replace hI := hI.2
            have f6 := hide hI.1
            replace hI := hI.2
            have f7 := hide hI.1
            replace hI := hI.2
            have f8 := hide hI.1
            replace hI := hI.2
            have f9 := hide hI.1
            replace hI := hI.2
            have f10 := hide hI
            clear hI
            obtain rfl := f1.out (hD.on 1 (by kernel_rfl))
            obtain rfl := f6.out (hD.on 6 (by kernel_rfl))
            try simp only [puts, Act.put, List.setIfInBounds_toArray, List.set_cons_zero, List.set_cons_succ]
            try go_simp
            exact hK.out _ _ _ (by simp only [puts, Act.put, List.setIfInBounds_toArray, List.set_cons_zero, List.set_cons_succ] <;> rfl) ⟨hG, (fun h => f0.out h), (fun h => f1.out h), (fun h => f2.out h), (fun h => f3.out h), (fun h => f4.out h), (fun h => f5.out h), (fun h => f6.out h), (fun h => f7.out h), (fun _ => rfl), (fun h => f9.out h), (fun h => f10.out h)⟩
          · intro L vs W hlen hL hD hI K hK
            obtain ⟨x0, x1, x2, x3, x4, x5, x6, x7, x8, x9, x10, rfl⟩ := len11 hlen
            have hG := hI.1
            replace hI := hI.2
            have f0 := hide hI.1
            replace hI := hI.2
            have f1 := hide hI.1
            replace hI := hI.2
            have f2 := hide hI.1
            replace hI := hI.2
            have f3 := hide hI.1
            replace hI := hI.2
            have f4 := hide hI.1
            replace hI := hI.2
            have f5 := hide hI.1
            replace hI := hI.2
            have f6 := hide hI.1
            replace hI := hI.2
            have f7 := hide hI.1
            replace hI := hI.2
            have f8 := hide hI.1
            replace hI := hI.2
            have f9 := hide hI.1
            replace hI := hI.2
            have f10 := hide hI
            clear hI
            obtain rfl := f8.out (hD.on 8 (by kernel_rfl))
            try simp only [puts, Act.put, List.setIfInBounds_toArray, List.set_cons_zero, List.set_cons_succ]
            try go_simp
            exact hK.out _ _ _ (by simp only [puts, Act.put, List.setIfInBounds_toArray, List.set_cons_zero, List.set_cons_succ] <;> rfl) ⟨hG, (fun h => f0.out h), (fun h => f1.out h), (fun h => f2.out h), (fun h => f3.out h), (fun h => f4.out h), (fun h => f5.out h), (fun h => f6.out h), (fun h => f7.out h), (fun h => f8.out h), (fun _ => rfl), (fun h => f10.out h)⟩
          · intro L vs W hlen hL hD hI K hK
            obtain ⟨x0, x1, x2, x3, x4, x5, x6, x7, x8, x9, x10, rfl⟩ := len11 hlen
            have hG := hI.1
            replace hI := hI.2
            have f0 := hide hI.1
            replace hI := hI.2
            have f1 := hide hI.1
            replace hI := hI.2
            have f2 := hide hI.1
            replace hI := hI.2
            have f3 := hide hI.1
            replace hI := hI.2
            have f4 := hide hI.1
            replace hI := hI.2
            have f5 := hide hI.1
            replace hI := hI.2
            have f6 := hide hI.1
            replace hI := hI.2
            have f7 := hide hI.1
            replace hI := hI.2
            have f8 := hide hI.1
            replace hI := hI.2
            have f9 := hide hI.1
            replace hI := hI.2
            have f10 := hide hI
            clear hI
            obtain rfl := f7.out (hD.on 7 (by kernel_rfl))
            obtain rfl := f9.out (hD.on 9 (by kernel_rfl))
            try simp only [puts, Act.put, List.setIfInBounds_toArray, List.set_cons_zero, List.set_cons_succ]
            have hbW := hG.2 hL
            obtain ⟨z0, v0, zc⟩ := HAT.out _ hbW
            rw [Nat.add_zero] at z0 zc
            go_simp
            have hb : True := trivial
            exact hK.out _ undef _ (by simp only [puts, Act.put, List.setIfInBounds_toArray, List.set_cons_zero, List.set_cons_succ] <;> rfl) ⟨⟨hG.1.other hgO _ _, fun h => by cases h⟩, (fun h => f0.out h), (fun h => f1.out h), (fun h => f2.out h), (fun h => f3.out h), (fun h => f4.out h), (fun h => f5.out h), (fun h => f6.out h), (fun h => f7.out h), (fun h => f8.out h), (fun h => f9.out h), (fun _ => ⟨W, hG.2 hL, rfl⟩)⟩
        intro L vs W hlen hall hI
        obtain ⟨x0, x1, x2, x3, x4, x5, x6, x7, x8, x9, x10, rfl⟩ := len11 hlen
        have hG := hI.1
        replace hI := hI.2
        have f0 := hide hI.1
        replace hI := hI.2
        have f1 := hide hI.1
        replace hI := hI.2
        have f2 := hide hI.1
        replace hI := hI.2
        have f3 := hide hI.1
        replace hI := hI.2
        have f4 := hide hI.1
        replace hI := hI.2
        have f5 := hide hI.1
        replace hI := hI.2
        have f6 := hide hI.1
        replace hI := hI.2
        have f7 := hide hI.1
        replace hI := hI.2
        have f8 := hide hI.1
        replace hI := hI.2
        have f9 := hide hI.1
        replace hI := hI.2
        have f10 := hide hI
        clear hI
        obtain rfl := f0.out (hall 0 (by decide))
        obtain rfl := f1.out (hall 1 (by decide))
        obtain rfl := f2.out (hall 2 (by decide))
        obtain rfl := f3.out (hall 3 (by decide))
        obtain rfl := f4.out (hall 4 (by decide))
        obtain rfl := f5.out (hall 5 (by decide))
        obtain rfl := f6.out (hall 6 (by decide))
        obtain rfl := f7.out (hall 7 (by decide))
        obtain rfl := f8.out (hall 8 (by decide))
        obtain rfl := f9.out (hall 9 (by decide))
        have g10 := f10.out (hall 10 (by decide))
        have hal := hide hall
        clear hall f0 f1 f2 f3 f4 f5 f6 f7 f8 f9 f10
        try simp only [puts, Act.put, List.setIfInBounds_toArray, List.set_cons_zero, List.set_cons_succ]
        obtain ⟨Wp, hbp, rfl⟩ := g10
        have hoz := HPUT.out Wp hbp
        rw [Nat.add_zero] at hoz
        have bOz := (bO.later hbp).other hgO (K * 3) (.int .i64 n)
        have bRz := (bR.later hbp).other (show w.heap.size + 1 ≠ g by omega) (K * 3) (.int .i64 n)
        have hwz : Below w.heap.size w (Wp.setCell ⟨g, K * 3, none⟩ (.int .i64 n)) := (below2 hw2 hbp).setCell (p := ⟨g, K * 3, none⟩) (by show w.heap.size ≤ g; omega) _
        generalize Wp.setCell ⟨g, K * 3, none⟩ (.int .i64 n) = Wz at hoz bOz bRz hwz hG ⊢
        clear hG hal HPUT HAT HPK hbp bO bR hco hre0 hfa0 hcl0
        have o0 := bOz.cell 0 rfl
        have o1 := bOz.cell 1 rfl
        have o2 := bOz.cell 2 rfl
        have r0 := bRz.cell 0 rfl
        have r1 := bRz.cell 1 rfl
        have r2 := bRz.cell 2 rfl
        have rf0 := bRz.frozen 0
        have rf1 := bRz.frozen 1
        have rf2 := bRz.frozen 2
        have HOZ := hide hoz
        have HWZ := hide hwz
        clear hoz hwz
        go_wp2_with fail
        have q1 := bRz.set 0 (.slice ca2 c.clauses.length cn2)
        have q2 := q1.set 1 (.slice (some ⟨g, 0, none⟩) c.repeals.length rn2)
        have q := q2.set 2 (.slice fa2 c.facts.length fn2)
        have x0 := q.cell 0 rfl
        have x1 := q.cell 1 rfl
        have x2 := q.cell 2 rfl
        refine bodyPost_ret (v := .agg #[.slice ca2 c.clauses.length cn2, .slice (some ⟨g, 0, none⟩) c.repeals.length rn2, .slice fa2 c.facts.length fn2]) (by simp [results, Tryz.results6, go_sem, x0, x1, x2]) rfl ?_
        exact ⟨_, _, _, _, rfl, ((((HOZ.out.setO bRz _).setO q1 _).setO q2 _).at (C := 0) (Nat.zero_le _) (Nat.zero_le _)).keeps (keeps_frm _ _), ((HWZ.out.setCell (p := ⟨w.heap.size + 1, 0, none⟩) (by show w.heap.size ≤ w.heap.size + 1; omega) _).setCell (p := ⟨w.heap.size + 1, 1, none⟩) (by show w.heap.size ≤ w.heap.size + 1; omega) _).setCell (p := ⟨w.heap.size + 1, 2, none⟩) (by show w.heap.size ≤ w.heap.size + 1; omega) _⟩
    · have h5' : (p == 5) = false := beq_eq_false_iff_ne.2 hp5
      by_cases hp6 : p = 6
      · subst hp6
        rcases Nat.eq_zero_or_pos c.facts.length with hf | hpf
        · have hfd : decide (0 < c.facts.length) = false := decide_eq_false (by omega)
          clear hf
          clear o0 o1 o2
          have bOz := bO
          have bRz := bR
          have hoz := hco
          have hwz := hw2
          have o0 := bOz.cell 0 rfl
          have o1 := bOz.cell 1 rfl
          have o2 := bOz.cell 2 rfl
          have r0 := bRz.cell 0 rfl
          have r1 := bRz.cell 1 rfl
          have r2 := bRz.cell 2 rfl
          have rf0 := bRz.frozen 0
          have rf1 := bRz.frozen 1
          have rf2 := bRz.frozen 2
          have HOZ := hide hoz
          have HWZ := hide hwz
          clear hoz hwz
          go_wp2_with fail
          have q1 := bRz.set 0 (.slice ca2 c.clauses.length cn2)
          have q2 := q1.set 1 (.slice ra2 c.repeals.length rn2)
          have q := q2.set 2 (.slice fa2 c.facts.length fn2)
          have x0 := q.cell 0 rfl
          have x1 := q.cell 1 rfl
          have x2 := q.cell 2 rfl
          refine bodyPost_ret (v := .agg #[.slice ca2 c.clauses.length cn2, .slice ra2 c.repeals.length rn2, .slice fa2 c.facts.length fn2]) (by simp [results, Tryz.results6, go_sem, x0, x1, x2]) rfl ?_
          exact ⟨_, _, _, _, rfl, ((((HOZ.out.setO bRz _).setO q1 _).setO q2 _).at (C := 0) (Nat.zero_le _) (Nat.zero_le _)).keeps (keeps_frm _ _), ((HWZ.out.setCell (p := ⟨w.heap.size + 1, 0, none⟩) (by show w.heap.size ≤ w.heap.size + 1; omega) _).setCell (p := ⟨w.heap.size + 1, 1, none⟩) (by show w.heap.size ≤ w.heap.size + 1; omega) _).setCell (p := ⟨w.heap.size + 1, 2, none⟩) (by show w.heap.size ≤ w.heap.size + 1; omega) _⟩
        · obtain ⟨g, rfl, hg1, hg2⟩ := own_some' hfa0 (by rw [List.length_map]; exact hpf)
          have hgO : w1.heap.size ≠ g := by omega
          have hK := HKB.out _ hpf
          obtain ⟨K, hKe⟩ : ∃ K : Nat, pk c.facts.length = K := ⟨(pk c.facts.length).toNat, by omega⟩
          have hKl : K < c.facts.length := by omega
          have hKI : (K : Int) < c.facts.length := by omega
          have HPK := hide (fun W => HPC.out c.facts.length W hpf (by omega))
          rw [hKe] at HPK
          have HAT := hide (fun W (hb : Below Y1.heap.size Y1 W) => rec_at (hco.fa.later' hb) (fun _ => rfl) (d := fact0) hKl 5 (by decide))
          have HPUT := hide (fun W (hb : Below Y1.heap.size Y1 W) => (hco.later hb).putFa hKl 5 (by decide) (.int .i64 n) { c.facts.getD K fact0 with kt := n } rfl)
          clear hK hKe
          go_wp2_with fail
          refine wp_region_inv [some 67, some 68, some 69, some 70, some 71, some 72, some 73, some 74, some 75, some 76, some 77, none] (fun L vs W => match vs with | [x0, x1, x2, x3, x4, x5, x6, x7, x8, x9, x10, x11] => (Blk W w1.heap.size [.slice ca2 c.clauses.length cn2, .slice ra2 c.repeals.length rn2, .slice (some ⟨g, 0, none⟩) c.facts.length fn2] 30 ∧ (L 11 = false → Below Y1.heap.size Y1 W)) ∧ (L 0 = true → x0 = .pointer (some ⟨w1.heap.size, 2, none⟩)) ∧ (L 1 = true → x1 = .slice (some ⟨g, 0, none⟩) c.facts.length fn2) ∧ (L 2 = true → x2 = .int .i64 at_) ∧ (L 3 = true → x3 = .pointer (some ⟨w1.heap.size, 2, none⟩)) ∧ (L 4 = true → x4 = .slice (some ⟨g, 0, none⟩) c.facts.length fn2) ∧ (L 5 = true → x5 = .int .i64 c.facts.length) ∧ (L 6 = true → x6 = .int .i64 K) ∧ (L 7 = true → x7 = .int .i64 n) ∧ (L 8 = true → x8 = .pointer (some ⟨g, K * 6, none⟩)) ∧ (L 9 = true → x9 = .pointer (some ⟨g, K * 6 + 4, none⟩)) ∧ (L 10 = true → x10 = .pointer (some ⟨g, K * 6 + 5, none⟩)) ∧ (L 11 = true → ∃ Wp, Below Y1.heap.size Y1 Wp ∧ W = Wp.setCell ⟨g, K * 6 + 5, none⟩ (.int .i64 n)) | _ => False) [_, _, _, _, _, _, _, _, _, _, _, undef] (by kernel_rfl) (by kernel_rfl) rfl (by simp only [puts, Act.put, List.setIfInBounds_toArray, List.set_cons_zero, List.set_cons_succ] <;> rfl) ?_ ?_ ?_
          · exact ⟨⟨bO, fun _ => (Below.refl _ _).drew⟩, (fun h => by cases h), (fun h => by cases h), (fun h => by cases h), (fun h => by cases h), (fun h => by cases h), (fun h => by cases h), (fun h => by cases h), (fun h => by cases h), (fun h => by cases h), (fun h => by cases h), (fun h => by cases h), (fun h => by cases h)⟩
          · refine ⟨?_, ?_, ?_, ?_, ?_, ?_, ?_, ?_, ?_, ?_, ?_, ?_, trivial⟩
            · intro L vs W hlen hL hD hI K hK
              obtain ⟨x0, x1, x2, x3, x4, x5, x6, x7, x8, x9, x10, x11, rfl⟩ := len12 hlen
              have hG := hI.1
              replace hI := hI.2
              have f0 := hide hI.1
              replace hI := hI.2
              have f1 := hide hI.1
              replace hI := hI.2
              have f2 := hide hI.1
              replace hI := hI.2
              have f3 := hide hI.1
              replace hI := hI.2
              have f4 := hide hI.1
              replace hI := hI.2
              have f5 := hide hI.1
              replace hI := hI.2
              have f6 := hide hI.1
              replace hI := hI.2
              have f7 := hide hI.1
              replace hI := hI.2
              have f8 := hide hI.1
              replace hI := hI.2
              have f9 := hide hI.1
              replace hI := hI.2
              have f10 := hide hI.1
              replace hI := hI.2
              have f11 := hide hI
              clear hI
              try simp only [puts, Act.put, List.setIfInBounds_toArray, List.set_cons_zero, List.set_cons_succ]
              try go_simp
              exact hK.out _ _ _ (by simp only [puts, Act.put, List.setIfInBounds_toArray, List.set_cons_zero, List.set_cons_succ] <;> rfl) ⟨hG, (fun _ => rfl), (fun h => f1.out h), (fun h => f2.out h), (fun h => f3.out h), (fun h => f4.out h), (fun h => f5.out h), (fun h => f6.out h), (fun h => f7.out h), (fun h => f8.out h), (fun h => f9.out h), (fun h => f10.out h), (fun h => f11.out h)⟩
            · intro L vs W hlen hL hD hI K hK
              obtain ⟨x0, x1, x2, x3, x4, x5, x6, x7, x8, x9, x10, x11, rfl⟩ := len12 hlen
              have hG := hI.1
              replace hI := hI.2
              have f0 := hide hI.1
              replace hI := hI.2
              have f1 := hide hI.1
              replace hI := hI.2
              have f2 := hide hI.1
              replace hI := hI.2
              have f3 := hide hI.1
              replace hI := hI.2
              have f4 := hide hI.1
              replace hI := hI.2
              have f5 := hide hI.1
              replace hI := hI.2
              have f6 := hide hI.1
              replace hI := hI.2
              have f7 := hide hI.1
              replace hI := hI.2
              have f8 := hide hI.1
              replace hI := hI.2
              have f9 := hide hI.1
              replace hI := hI.2
              have f10 := hide hI.1
              replace hI := hI.2
              have f11 := hide hI
              clear hI
              obtain rfl := f0.out (hD.on 0 (by kernel_rfl))
              try simp only [puts, Act.put, List.setIfInBounds_toArray, List.set_cons_zero, List.set_cons_succ]
              have p1 := hG.1.cell 2 rfl
              go_simp
              exact hK.out _ _ _ (by simp only [puts, Act.put, List.setIfInBounds_toArray, List.set_cons_zero, List.set_cons_succ] <;> rfl) ⟨hG, (fun h => f0.out h), (fun _ => rfl), (fun h => f2.out h), (fun h => f3.out h), (fun h => f4.out h), (fun h => f5.out h), (fun h => f6.out h), (fun h => f7.out h), (fun h => f8.out h), (fun h => f9.out h), (fun h => f10.out h), (fun h => f11.out h)⟩
            · intro L vs W hlen hL hD hI K hK
              obtain ⟨x0, x1, x2, x3, x4, x5, x6, x7, x8, x9, x10, x11, rfl⟩ := len12 hlen
              have hG := hI.1
              replace hI := hI.2
              have f0 := hide hI.1
              replace hI := hI.2
              have f1 := hide hI.1
              replace hI := hI.2
              have f2 := hide hI.1
              replace hI := hI.2
              have f3 := hide hI.1
              replace hI := hI.2
              have f4 := hide hI.1
              replace hI := hI.2
              have f5 := hide hI.1
              replace hI := hI.2
              have f6 := hide hI.1
              replace hI := hI.2
              have f7 := hide hI.1
              replace hI := hI.2
              have f8 := hide hI.1
              replace hI := hI.2
              have f9 := hide hI.1
              replace hI := hI.2
              have f10 := hide hI.1
              replace hI := hI.2
              have f11 := hide hI
              clear hI
              try simp only [puts, Act.put, List.setIfInBounds_toArray, List.set_cons_zero, List.set_cons_succ]
              try go_simp
              exact hK.out _ _ _ (by simp only [puts, Act.put, List.setIfInBounds_toArray, List.set_cons_zero, List.set_cons_succ] <;> rfl) ⟨hG, (fun h => f0.out h), (fun h => f1.out h), (fun _ => rfl), (fun h => f3.out h), (fun h => f4.out h), (fun h => f5.out h), (fun h => f6.out h), (fun h => f7.out h), (fun h => f8.out h), (fun h => f9.out h), (fun h => f10.out h), (fun h => f11.out h)⟩
            · intro L vs W hlen hL hD hI K hK
              obtain ⟨x0, x1, x2, x3, x4, x5, x6, x7, x8, x9, x10, x11, rfl⟩ := len12 hlen
              have hG := hI.1
              replace hI := hI.2
              have f0 := hide hI.1
              replace hI := hI.2
              have f1 := hide hI.1
              replace hI := hI.2
              have f2 := hide hI.1
              replace hI := hI.2
              have f3 := hide hI.1
              replace hI := hI.2
              have f4 := hide hI.1
              replace hI := hI.2
              have f5 := hide hI.1
              replace hI := hI.2
              have f6 := hide hI.1
              replace hI := hI.2
              have f7 := hide hI.1
              replace hI := hI.2
              have f8 := hide hI.1
              replace hI := hI.2
              have f9 := hide hI.1
              replace hI := hI.2
              have f10 := hide hI.1
              replace hI := hI.2
              have f11 := hide hI
              clear hI
              try simp only [puts, Act.put, List.setIfInBounds_toArray, List.set_cons_zero, List.set_cons_succ]
              try go_simp
              exact hK.out _ _ _ (by simp only [puts, Act.put, List.setIfInBounds_toArray, List.set_cons_zero, List.set_cons_succ] <;> rfl) ⟨hG, (fun h => f0.out h), (fun h => f1.out h), (fun h => f2.out h), (fun _ => rfl), (fun h => f4.out h), (fun h => f5.out h), (fun h => f6.out h), (fun h => f7.out h), (fun h => f8.out h), (fun h => f9.out h), (fun h => f10.out h), (fun h => f11.out h)⟩
            · intro L vs W hlen hL hD hI K hK
              obtain ⟨x0, x1, x2, x3, x4, x5, x6, x7, x8, x9, x10, x11, rfl⟩ := len12 hlen
              have hG := hI.1
              replace hI := hI.2
              have f0 := hide hI.1
              replace hI := hI.2
              have f1 := hide hI.1
              replace hI := hI.2
              have f2 := hide hI.1
              replace hI := hI.2
              have f3 := hide hI.1
              replace hI := hI.2
              have f4 := hide hI.1
              replace hI := hI.2
              have f5 := hide hI.1
              replace hI := hI.2
              have f6 := hide hI.1
              replace hI := hI.2
              have f7 := hide hI.1
              replace hI := hI.2
              have f8 := hide hI.1
              replace hI := hI.2
              have f9 := hide hI.1
              replace hI := hI.2
              have f10 := hide hI.1
              replace hI := hI.2
              have f11 := hide hI
              clear hI
              obtain rfl := f3.out (hD.on 3 (by kernel_rfl))
              try simp only [puts, Act.put, List.setIfInBounds_toArray, List.set_cons_zero, List.set_cons_succ]
              have p1 := hG.1.cell 2 rfl
              go_simp
              exact hK.out _ _ _ (by simp only [puts, Act.put, List.setIfInBounds_toArray, List.set_cons_zero, List.set_cons_succ] <;> rfl) ⟨hG, (fun h => f0.out h), (fun h => f1.out h), (fun h => f2.out h), (fun h => f3.out h), (fun _ => rfl), (fun h => f5.out h), (fun h => f6.out h), (fun h => f7.out h), (fun h => f8.out h), (fun h => f9.out h), (fun h => f10.out h), (fun h => f11.out h)⟩
            · intro L vs W hlen hL hD hI K hK
              obtain ⟨x0, x1, x2, x3, x4, x5, x6, x7, x8, x9, x10, x11, rfl⟩ := len12 hlen
              have hG := hI.1
              replace hI := hI.2
              have f0 := hide hI.1
              replace hI := hI.2
              have f1 := hide hI.1
              replace hI := hI.2
              have f2 := hide hI.1
              replace hI := hI.2
              have f3 := hide hI.1
              replace hI := hI.2
              have f4 := hide hI.1
              replace hI := hI.2
              have f5 := hide hI.1
              replace hI := hI.2
              have f6 := hide hI.1
              replace hI := hI.2
              have f7 := hide hI.1
              replace hI := hI.2
              have f8 := hide hI.1
              replace hI := hI.2
              have f9 := hide hI.1
              replace hI := hI.2
              have f10 := hide hI.1
              replace hI := hI.2
              have f11 := hide hI
              clear hI
              obtain rfl := f4.out (hD.on 4 (by kernel_rfl))
              try simp only [puts, Act.put, List.setIfInBounds_toArray, List.set_cons_zero, List.set_cons_succ]
              try go_simp
              exact hK.out _ _ _ (by simp only [puts, Act.put, List.setIfInBounds_toArray, List.set_cons_zero, List.set_cons_succ] <;> rfl) ⟨hG, (fun h => f0.out h), (fun h => f1.out h), (fun h => f2.out h), (fun h => f3.out h), (fun h => f4.out h), (fun _ => rfl), (fun h => f6.out h), (fun h => f7.out h), (fun h => f8.out h), (fun h => f9.out h), (fun h => f10.out h), (fun h => f11.out h)⟩
            · intro L vs W hlen hL hD hI K hK
              obtain ⟨x0, x1, x2, x3, x4, x5, x6, x7, x8, x9, x10, x11, rfl⟩ := len12 hlen
              have hG := hI.1
              replace hI := hI.2
              have f0 := hide hI.1
              replace hI := hI.2
              have f1 := hide hI.1
              replace hI := hI.2
              have f2 := hide hI.1
              replace hI := hI.2
              have f3 := hide hI.1
              replace hI := hI.2
              have f4 := hide hI.1
              replace hI := hI.2
              have f5 := hide hI.1
              replace hI := hI.2
              have f6 := hide hI.1
              replace hI := hI.2
              have f7 := hide hI.1
              replace hI := hI.2
              have f8 := hide hI.1
              replace hI := hI.2
              have f9 := hide hI.1
              replace hI := hI.2
              have f10 := hide hI.1
              replace hI := hI.2
              have f11 := hide hI
              clear hI
              obtain rfl := f2.out (hD.on 2 (by kernel_rfl))
              obtain rfl := f5.out (hD.on 5 (by kernel_rfl))
              try simp only [puts, Act.put, List.setIfInBounds_toArray, List.set_cons_zero, List.set_cons_succ]
              try go_simp
              refine (HPK.out _).mono ?_
              rintro e W' ⟨rfl, rfl⟩
              try go_simp
              exact hK.out _ _ _ (by simp only [puts, Act.put, List.setIfInBounds_toArray, List.set_cons_zero, List.set_cons_succ] <;> rfl) ⟨hG, (fun h => f0.out h), (fun h => f1.out h), (fun h => f2.out h), (fun h => f3.out h), (fun h => f4.out h), (fun h => f5.out h), (fun _ => rfl), (fun h => f7.out h), (fun h => f8.out h), (fun h => f9.out h), (fun h => f10.out h), (fun h => f11.out h)⟩
            · intro L vs W hlen hL hD hI K hK
              obtain ⟨x0, x1, x2, x3, x4, x5, x6, x7, x8, x9, x10, x11, rfl⟩ := len12 hlen
              have hG := hI.1
              replace hI := hI.2
              have f0 := hide hI.1
              replace hI := hI.2
              have f1 := hide hI.1
              replace hI := hI.2
              have f2 := hide hI.1
              replace hI := hI.2
              have f3 := hide hI.1
              replace hI := hI.2
              have f4 := hide hI.1
              replace hI := hI.2
              have f5 := hide hI.1
              replace hI := hI.2
              have f6 := hide hI.1
              replace hI := hI.2
              have f7 := hide hI.1
              replace hI := hI.2
              have f8 := hide hI.1
              replace hI := hI.2
              have f9 := hide hI.1
              replace hI := hI.2
              have f10 := hide hI.1
              replace hI := hI.2
              have f11 := hide hI
              clear hI
              try simp only [puts, Act.put, List.setIfInBounds_toArray, List.set_cons_zero, List.set_cons_succ]
              try go_simp
              exact hK.out _ _ _ (by simp only [puts, Act.put, List.setIfInBounds_toArray, List.set_cons_zero, List.set_cons_succ] <;> rfl) ⟨hG, (fun h => f0.out h), (fun h => f1.out h), (fun h => f2.out h), (fun h => f3.out h), (fun h => f4.out h), (fun h => f5.out h), (fun h => f6.out h), (fun _ => rfl), (fun h => f8.out h), (fun h => f9.out h), (fun h => f10.out h), (fun h => f11.out h)⟩
            · intro L vs W hlen hL hD hI K hK
              obtain ⟨x0, x1, x2, x3, x4, x5, x6, x7, x8, x9, x10, x11, rfl⟩ := len12 hlen
              have hG := hI.1
              replace hI := hI.2
              have f0 := hide hI.1
              replace hI := hI.2
              have f1 := hide hI.1
              replace hI := hI.2
              have f2 := hide hI.1
              replace hI := hI.2
              have f3 := hide hI.1
              replace hI := hI.2
              have f4 := hide hI.1
              replace hI := hI.2
              have f5 := hide hI.1
              replace hI := hI.2
              have f6 := hide hI.1
              replace hI := hI.2
              have f7 := hide hI.1
              replace hI := hI.2
              have f8 := hide hI.1
              replace hI := hI.2
              have f9 := hide hI.1
              replace hI := hI.2
              have f10 := hide hI.1
              replace hI := hI.2
              have f11 := hide hI
              clear hI
              obtain rfl := f1.out (hD.on 1 (by kernel_rfl))
              obtain rfl := f6.out (hD.on 6 (by kernel_rfl))
              try simp only [puts, Act.put, List.setIfInBounds_toArray, List.set_cons_zero, List.set_cons_succ]
              try go_simp
              exact hK.out _ _ _ (by simp only [puts, Act.put, List.setIfInBounds_toArray, List.set_cons_zero, List.set_cons_succ] <;> rfl) ⟨hG, (fun h => f0.out h), (fun h => f1.out h), (fun h => f2.out h), (fun h => f3.out h), (fun h => f4.out h), (fun h => f5.out h), (fun h => f6.out h), (fun h => f7.out h), (fun _ => rfl), (fun h => f9.out h), (fun h => f10.out h), (fun h => f11.out h)⟩
            · intro L vs W hlen hL hD hI K hK
              obtain ⟨x0, x1, x2, x3, x4, x5, x6, x7, x8, x9, x10, x11, rfl⟩ := len12 hlen
              have hG := hI.1
              replace hI := hI.2
              have f0 := hide hI.1
              replace hI := hI.2
              have f1 := hide hI.1
              replace hI := hI.2
              have f2 := hide hI.1
              replace hI := hI.2
              have f3 := hide hI.1
              replace hI := hI.2
              have f4 := hide hI.1
              replace hI := hI.2
              have f5 := hide hI.1
              replace hI := hI.2
              have f6 := hide hI.1
              replace hI := hI.2
              have f7 := hide hI.1
              replace hI := hI.2
              have f8 := hide hI.1
              replace hI := hI.2
              have f9 := hide hI.1
              replace hI := hI.2
              have f10 := hide hI.1
              replace hI := hI.2
              have f11 := hide hI
              clear hI
              obtain rfl := f8.out (hD.on 8 (by kernel_rfl))
              try simp only [puts, Act.put, List.setIfInBounds_toArray, List.set_cons_zero, List.set_cons_succ]
              try go_simp
              exact hK.out _ _ _ (by simp only [puts, Act.put, List.setIfInBounds_toArray, List.set_cons_zero, List.set_cons_succ] <;> rfl) ⟨hG, (fun h => f0.out h), (fun h => f1.out h), (fun h => f2.out h), (fun h => f3.out h), (fun h => f4.out h), (fun h => f5.out h), (fun h => f6.out h), (fun h => f7.out h), (fun h => f8.out h), (fun _ => rfl), (fun h => f10.out h), (fun h => f11.out h)⟩
            · intro L vs W hlen hL hD hI K hK
              obtain ⟨x0, x1, x2, x3, x4, x5, x6, x7, x8, x9, x10, x11, rfl⟩ := len12 hlen
              have hG := hI.1
              replace hI := hI.2
              have f0 := hide hI.1
              replace hI := hI.2
              have f1 := hide hI.1
              replace hI := hI.2
              have f2 := hide hI.1
              replace hI := hI.2
              have f3 := hide hI.1
              replace hI := hI.2
              have f4 := hide hI.1
              replace hI := hI.2
              have f5 := hide hI.1
              replace hI := hI.2
              have f6 := hide hI.1
              replace hI := hI.2
              have f7 := hide hI.1
              replace hI := hI.2
              have f8 := hide hI.1
              replace hI := hI.2
              have f9 := hide hI.1
              replace hI := hI.2
              have f10 := hide hI.1
              replace hI := hI.2
              have f11 := hide hI
              clear hI
              obtain rfl := f9.out (hD.on 9 (by kernel_rfl))
              try simp only [puts, Act.put, List.setIfInBounds_toArray, List.set_cons_zero, List.set_cons_succ]
              try go_simp
              exact hK.out _ _ _ (by simp only [puts, Act.put, List.setIfInBounds_toArray, List.set_cons_zero, List.set_cons_succ] <;> rfl) ⟨hG, (fun h => f0.out h), (fun h => f1.out h), (fun h => f2.out h), (fun h => f3.out h), (fun h => f4.out h), (fun h => f5.out h), (fun h => f6.out h), (fun h => f7.out h), (fun h => f8.out h), (fun h => f9.out h), (fun _ => rfl), (fun h => f11.out h)⟩
            · intro L vs W hlen hL hD hI K hK
              obtain ⟨x0, x1, x2, x3, x4, x5, x6, x7, x8, x9, x10, x11, rfl⟩ := len12 hlen
              have hG := hI.1
              replace hI := hI.2
              have f0 := hide hI.1
              replace hI := hI.2
              have f1 := hide hI.1
              replace hI := hI.2
              have f2 := hide hI.1
              replace hI := hI.2
              have f3 := hide hI.1
              replace hI := hI.2
              have f4 := hide hI.1
              replace hI := hI.2
              have f5 := hide hI.1
              replace hI := hI.2
              have f6 := hide hI.1
              replace hI := hI.2
              have f7 := hide hI.1
              replace hI := hI.2
              have f8 := hide hI.1
              replace hI := hI.2
              have f9 := hide hI.1
              replace hI := hI.2
              have f10 := hide hI.1
              replace hI := hI.2
              have f11 := hide hI
              clear hI
              obtain rfl := f7.out (hD.on 7 (by kernel_rfl))
              obtain rfl := f10.out (hD.on 10 (by kernel_rfl))
              try simp only [puts, Act.put, List.setIfInBounds_toArray, List.set_cons_zero, List.set_cons_succ]
              have hbW := hG.2 hL
              obtain ⟨z0, v0, zc⟩ := HAT.out _ hbW
              go_simp
              have hb : True := trivial
              exact hK.out _ undef _ (by simp only [puts, Act.put, List.setIfInBounds_toArray, List.set_cons_zero, List.set_cons_succ] <;> rfl) ⟨⟨hG.1.other hgO _ _, fun h => by cases h⟩, (fun h => f0.out h), (fun h => f1.out h), (fun h => f2.out h), (fun h => f3.out h), (fun h => f4.out h), (fun h => f5.out h), (fun h => f6.out h), (fun h => f7.out h), (fun h => f8.out h), (fun h => f9.out h), (fun h => f10.out h), (fun _ => ⟨W, hG.2 hL, rfl⟩)⟩
          intro L vs W hlen hall hI
          obtain ⟨x0, x1, x2, x3, x4, x5, x6, x7, x8, x9, x10, x11, rfl⟩ := len12 hlen
          have hG := hI.1
          replace hI := hI.2
          have f0 := hide hI.1
          replace hI := hI.2
          have f1 := hide hI.1
          replace hI := hI.2
          have f2 := hide hI.1
          replace hI := hI.2
          have f3 := hide hI.1
          replace hI := hI.2
          have f4 := hide hI.1
          replace hI := hI.2
          have f5 := hide hI.1
          replace hI := hI.2
          have f6 := hide hI.1
          replace hI := hI.2
          have f7 := hide hI.1
          replace hI := hI.2
          have f8 := hide hI.1
          replace hI := hI.2
          have f9 := hide hI.1
          replace hI := hI.2
          have f10 := hide hI.1
          replace hI := hI.2
          have f11 := hide hI
          clear hI
          obtain rfl := f0.out (hall 0 (by decide))
          obtain rfl := f1.out (hall 1 (by decide))
          obtain rfl := f2.out (hall 2 (by decide))
          obtain rfl := f3.out (hall 3 (by decide))
          obtain rfl := f4.out (hall 4 (by decide))
          obtain rfl := f5.out (hall 5 (by decide))
          obtain rfl := f6.out (hall 6 (by decide))
          obtain rfl := f7.out (hall 7 (by decide))
          obtain rfl := f8.out (hall 8 (by decide))
          obtain rfl := f9.out (hall 9 (by decide))
          obtain rfl := f10.out (hall 10 (by decide))
          have g11 := f11.out (hall 11 (by decide))
          have hal := hide hall
          clear hall f0 f1 f2 f3 f4 f5 f6 f7 f8 f9 f10 f11
          try simp only [puts, Act.put, List.setIfInBounds_toArray, List.set_cons_zero, List.set_cons_succ]
          obtain ⟨Wp, hbp, rfl⟩ := g11
          have hoz := HPUT.out Wp hbp
          have bOz := (bO.later hbp).other hgO (K * 6 + 5) (.int .i64 n)
          have bRz := (bR.later hbp).other (show w.heap.size + 1 ≠ g by omega) (K * 6 + 5) (.int .i64 n)
          have hwz : Below w.heap.size w (Wp.setCell ⟨g, K * 6 + 5, none⟩ (.int .i64 n)) := (below2 hw2 hbp).setCell (p := ⟨g, K * 6 + 5, none⟩) (by show w.heap.size ≤ g; omega) _
          generalize Wp.setCell ⟨g, K * 6 + 5, none⟩ (.int .i64 n) = Wz at hoz bOz bRz hwz hG ⊢
          clear hG hal HPUT HAT HPK hbp bO bR hco hre0 hfa0 hcl0
          have o0 := bOz.cell 0 rfl
          have o1 := bOz.cell 1 rfl
          have o2 := bOz.cell 2 rfl
          have r0 := bRz.cell 0 rfl
          have r1 := bRz.cell 1 rfl
          have r2 := bRz.cell 2 rfl
          have rf0 := bRz.frozen 0
          have rf1 := bRz.frozen 1
          have rf2 := bRz.frozen 2
          have HOZ := hide hoz
          have HWZ := hide hwz
          clear hoz hwz
          go_wp2_with fail
          have q1 := bRz.set 0 (.slice ca2 c.clauses.length cn2)
          have q2 := q1.set 1 (.slice ra2 c.repeals.length rn2)
          have q := q2.set 2 (.slice (some ⟨g, 0, none⟩) c.facts.length fn2)
          have x0 := q.cell 0 rfl
          have x1 := q.cell 1 rfl
          have x2 := q.cell 2 rfl
          refine bodyPost_ret (v := .agg #[.slice ca2 c.clauses.length cn2, .slice ra2 c.repeals.length rn2, .slice (some ⟨g, 0, none⟩) c.facts.length fn2]) (by simp [results, Tryz.results6, go_sem, x0, x1, x2]) rfl ?_
          exact ⟨_, _, _, _, rfl, ((((HOZ.out.setO bRz _).setO q1 _).setO q2 _).at (C := 0) (Nat.zero_le _) (Nat.zero_le _)).keeps (keeps_frm _ _), ((HWZ.out.setCell (p := ⟨w.heap.size + 1, 0, none⟩) (by show w.heap.size ≤ w.heap.size + 1; omega) _).setCell (p := ⟨w.heap.size + 1, 1, none⟩) (by show w.heap.size ≤ w.heap.size + 1; omega) _).setCell (p := ⟨w.heap.size + 1, 2, none⟩) (by show w.heap.size ≤ w.heap.size + 1; omega) _⟩
      · have h6' : (p == 6) = false := beq_eq_false_iff_ne.2 hp6
        rcases Nat.eq_zero_or_pos c.facts.length with hf | hpf
        · have hfd : decide (0 < c.facts.length) = false := decide_eq_false (by omega)
          clear hf
          clear o0 o1 o2
          have bOz := bO
          have bRz := bR
          have hoz := hco
          have hwz := hw2
          have o0 := bOz.cell 0 rfl
          have o1 := bOz.cell 1 rfl
          have o2 := bOz.cell 2 rfl
          have r0 := bRz.cell 0 rfl
          have r1 := bRz.cell 1 rfl
          have r2 := bRz.cell 2 rfl
          have rf0 := bRz.frozen 0
          have rf1 := bRz.frozen 1
          have rf2 := bRz.frozen 2
          have HOZ := hide hoz
          have HWZ := hide hwz
          clear hoz hwz
          go_wp2_with fail
          have q1 := bRz.set 0 (.slice ca2 c.clauses.length cn2)
          have q2 := q1.set 1 (.slice ra2 c.repeals.length rn2)
          have q := q2.set 2 (.slice fa2 c.facts.length fn2)
          have x0 := q.cell 0 rfl
          have x1 := q.cell 1 rfl
          have x2 := q.cell 2 rfl
          refine bodyPost_ret (v := .agg #[.slice ca2 c.clauses.length cn2, .slice ra2 c.repeals.length rn2, .slice fa2 c.facts.length fn2]) (by simp [results, Tryz.results6, go_sem, x0, x1, x2]) rfl ?_
          exact ⟨_, _, _, _, rfl, ((((HOZ.out.setO bRz _).setO q1 _).setO q2 _).at (C := 0) (Nat.zero_le _) (Nat.zero_le _)).keeps (keeps_frm _ _), ((HWZ.out.setCell (p := ⟨w.heap.size + 1, 0, none⟩) (by show w.heap.size ≤ w.heap.size + 1; omega) _).setCell (p := ⟨w.heap.size + 1, 1, none⟩) (by show w.heap.size ≤ w.heap.size + 1; omega) _).setCell (p := ⟨w.heap.size + 1, 2, none⟩) (by show w.heap.size ≤ w.heap.size + 1; omega) _⟩
        · obtain ⟨g, rfl, hg1, hg2⟩ := own_some' hfa0 (by rw [List.length_map]; exact hpf)
          have hgO : w1.heap.size ≠ g := by omega
          have hK := HKB.out _ hpf
          obtain ⟨K, hKe⟩ : ∃ K : Nat, pk c.facts.length = K := ⟨(pk c.facts.length).toNat, by omega⟩
          have hKl : K < c.facts.length := by omega
          have hKI : (K : Int) < c.facts.length := by omega
          have HPK := hide (fun W => HPC.out c.facts.length W hpf (by omega))
          rw [hKe] at HPK
          have HAT := hide (fun W (hb : Below Y1.heap.size Y1 W) => rec_at (hco.fa.later' hb) (fun _ => rfl) (d := fact0) hKl 1 (by decide))
          have HPUT := hide (fun W (hb : Below Y1.heap.size Y1 W) => (hco.later hb).putFa hKl 1 (by decide) (.int .i64 n) { c.facts.getD K fact0 with says := n } rfl)
          clear hK hKe
          go_wp2_with fail
          refine wp_region_inv [some 82, some 83, some 84, some 85, some 86, some 87, some 88, some 89, some 90, some 91, none] (fun L vs W => match vs with | [x0, x1, x2, x3, x4, x5, x6, x7, x8, x9, x10] => (Blk W w1.heap.size [.slice ca2 c.clauses.length cn2, .slice ra2 c.repeals.length rn2, .slice (some ⟨g, 0, none⟩) c.facts.length fn2] 30 ∧ (L 10 = false → Below Y1.heap.size Y1 W)) ∧ (L 0 = true → x0 = .pointer (some ⟨w1.heap.size, 2, none⟩)) ∧ (L 1 = true → x1 = .slice (some ⟨g, 0, none⟩) c.facts.length fn2) ∧ (L 2 = true → x2 = .int .i64 at_) ∧ (L 3 = true → x3 = .pointer (some ⟨w1.heap.size, 2, none⟩)) ∧ (L 4 = true → x4 = .slice (some ⟨g, 0, none⟩) c.facts.length fn2) ∧ (L 5 = true → x5 = .int .i64 c.facts.length) ∧ (L 6 = true → x6 = .int .i64 K) ∧ (L 7 = true → x7 = .int .i64 n) ∧ (L 8 = true → x8 = .pointer (some ⟨g, K * 6, none⟩)) ∧ (L 9 = true → x9 = .pointer (some ⟨g, K * 6 + 1, none⟩)) ∧ (L 10 = true → ∃ Wp, Below Y1.heap.size Y1 Wp ∧ W = Wp.setCell ⟨g, K * 6 + 1, none⟩ (.int .i64 n)) | _ => False) [_, _, _, _, _, _, _, _, _, _, undef] (by kernel_rfl) (by kernel_rfl) rfl (by simp only [puts, Act.put, List.setIfInBounds_toArray, List.set_cons_zero, List.set_cons_succ] <;> rfl) ?_ ?_ ?_
          · exact ⟨⟨bO, fun _ => (Below.refl _ _).drew⟩, (fun h => by cases h), (fun h => by cases h), (fun h => by cases h), (fun h => by cases h), (fun h => by cases h), (fun h => by cases h), (fun h => by cases h), (fun h => by cases h), (fun h => by cases h), (fun h => by cases h), (fun h => by cases h)⟩
          · refine ⟨?_, ?_, ?_, ?_, ?_, ?_, ?_, ?_, ?_, ?_, ?_, trivial⟩
            · intro L vs W hlen hL hD hI K hK
              obtain ⟨x0, x1, x2, x3, x4, x5, x6, x7, x8, x9, x10, rfl⟩ := len11 hlen
              have hG := hI.1
              replace hI := hI.2
              have f0 := hide hI.1
              replace hI := hI.2
              have f1 := hide hI.1
              replace hI := hI.2
              have f2 := hide hI.1
              replace hI := hI.2
              have f3 := hide hI.1
              replace hI := hI.2
              have f4 := hide hI.1
              replace hI := hI.2
              have f5 := hide hI.1
              replace hI := hI.2
              have f6 := hide hI.1
              replace hI := hI.2
              have f7 := hide hI.1
              replace hI := hI.2
              have f8 := hide hI.1
              replace hI := hI.2
              have f9 := hide hI.1
              replace hI := hI.2
              have f10 := hide hI
              clear hI
              try simp only [puts, Act.put, List.setIfInBounds_toArray, List.set_cons_zero, List.set_cons_succ]
              try go_simp
              exact hK.out _ _ _ (by simp only [puts, Act.put, List.setIfInBounds_toArray, List.set_cons_zero, List.set_cons_succ] <;> rfl) ⟨hG, (fun _ => rfl), (fun h => f1.out h), (fun h => f2.out h), (fun h => f3.out h), (fun h => f4.out h), (fun h => f5.out h), (fun h => f6.out h), (fun h => f7.out h), (fun h => f8.out h), (fun h => f9.out h), (fun h => f10.out h)⟩
            · intro L vs W hlen hL hD hI K hK
              obtain ⟨x0, x1, x2, x3, x4, x5, x6, x7, x8, x9, x10, rfl⟩ := len11 hlen
              have hG := hI.1
              replace hI := hI.2
              have f0 := hide hI.1
              replace hI := hI.2
              have f1 := hide hI.1
              replace hI := hI.2
              have f2 := hide hI.1
              replace hI := hI.2
              have f3 := hide hI.1
              replace hI := hI.2
              have f4 := hide hI.1
              replace hI := hI.2
              have f5 := hide hI.1
              replace hI := hI.2
              have f6 := hide hI.1
              replace hI := hI.2
              have f7 := hide hI.1
              replace hI := hI.2
              have f8 := hide hI.1
              replace hI := hI.2
              have f9 := hide hI.1
              replace hI := hI.2
              have f10 := hide hI
              clear hI
              obtain rfl := f0.out (hD.on 0 (by kernel_rfl))
              try simp only [puts, Act.put, List.setIfInBounds_toArray, List.set_cons_zero, List.set_cons_succ]
              have p1 := hG.1.cell 2 rfl
              go_simp
              exact hK.out _ _ _ (by simp only [puts, Act.put, List.setIfInBounds_toArray, List.set_cons_zero, List.set_cons_succ] <;> rfl) ⟨hG, (fun h => f0.out h), (fun _ => rfl), (fun h => f2.out h), (fun h => f3.out h), (fun h => f4.out h), (fun h => f5.out h), (fun h => f6.out h), (fun h => f7.out h), (fun h => f8.out h), (fun h => f9.out h), (fun h => f10.out h)⟩
            · intro L vs W hlen hL hD hI K hK
              obtain ⟨x0, x1, x2, x3, x4, x5, x6, x7, x8, x9, x10, rfl⟩ := len11 hlen
              have hG := hI.1
              replace hI := hI.2
              have f0 := hide hI.1
              replace hI := hI.2
              have f1 := hide hI.1
              replace hI := hI.2
              have f2 := hide hI.1
              replace hI := hI.2
              have f3 := hide hI.1
              replace hI := hI.2
              have f4 := hide hI.1
              replace hI := hI.2
              have f5 := hide hI.1
              replace hI := hI.2
              have f6 := hide hI.1
              replace hI := hI.2
              have f7 := hide hI.1
              replace hI := hI.2
              have f8 := hide hI.1
              replace hI := hI.2
              have f9 := hide hI.1
              replace hI := hI.2
              have f10 := hide hI
              clear hI
              try simp only [puts, Act.put, List.setIfInBounds_toArray, List.set_cons_zero, List.set_cons_succ]
              try go_simp
              exact hK.out _ _ _ (by simp only [puts, Act.put, List.setIfInBounds_toArray, List.set_cons_zero, List.set_cons_succ] <;> rfl) ⟨hG, (fun h => f0.out h), (fun h => f1.out h), (fun _ => rfl), (fun h => f3.out h), (fun h => f4.out h), (fun h => f5.out h), (fun h => f6.out h), (fun h => f7.out h), (fun h => f8.out h), (fun h => f9.out h), (fun h => f10.out h)⟩
            · intro L vs W hlen hL hD hI K hK
              obtain ⟨x0, x1, x2, x3, x4, x5, x6, x7, x8, x9, x10, rfl⟩ := len11 hlen
              have hG := hI.1
              replace hI := hI.2
              have f0 := hide hI.1
              replace hI := hI.2
              have f1 := hide hI.1
              replace hI := hI.2
              have f2 := hide hI.1
              replace hI := hI.2
              have f3 := hide hI.1
              replace hI := hI.2
              have f4 := hide hI.1
              replace hI := hI.2
              have f5 := hide hI.1
              replace hI := hI.2
              have f6 := hide hI.1
              replace hI := hI.2
              have f7 := hide hI.1
              replace hI := hI.2
              have f8 := hide hI.1
              replace hI := hI.2
              have f9 := hide hI.1
              replace hI := hI.2
              have f10 := hide hI
              clear hI
              try simp only [puts, Act.put, List.setIfInBounds_toArray, List.set_cons_zero, List.set_cons_succ]
              try go_simp
              exact hK.out _ _ _ (by simp only [puts, Act.put, List.setIfInBounds_toArray, List.set_cons_zero, List.set_cons_succ] <;> rfl) ⟨hG, (fun h => f0.out h), (fun h => f1.out h), (fun h => f2.out h), (fun _ => rfl), (fun h => f4.out h), (fun h => f5.out h), (fun h => f6.out h), (fun h => f7.out h), (fun h => f8.out h), (fun h => f9.out h), (fun h => f10.out h)⟩
            · intro L vs W hlen hL hD hI K hK
              obtain ⟨x0, x1, x2, x3, x4, x5, x6, x7, x8, x9, x10, rfl⟩ := len11 hlen
              have hG := hI.1
              replace hI := hI.2
              have f0 := hide hI.1
              replace hI := hI.2
              have f1 := hide hI.1
              replace hI := hI.2
              have f2 := hide hI.1
              replace hI := hI.2
              have f3 := hide hI.1
              replace hI := hI.2
              have f4 := hide hI.1
              replace hI := hI.2
              have f5 := hide hI.1
              replace hI := hI.2
              have f6 := hide hI.1
              replace hI := hI.2
              have f7 := hide hI.1
              replace hI := hI.2
              have f8 := hide hI.1
              replace hI := hI.2
              have f9 := hide hI.1
              replace hI := hI.2
              have f10 := hide hI
              clear hI
              obtain rfl := f3.out (hD.on 3 (by kernel_rfl))
              try simp only [puts, Act.put, List.setIfInBounds_toArray, List.set_cons_zero, List.set_cons_succ]
              have p1 := hG.1.cell 2 rfl
              go_simp
              exact hK.out _ _ _ (by simp only [puts, Act.put, List.setIfInBounds_toArray, List.set_cons_zero, List.set_cons_succ] <;> rfl) ⟨hG, (fun h => f0.out h), (fun h => f1.out h), (fun h => f2.out h), (fun h => f3.out h), (fun _ => rfl), (fun h => f5.out h), (fun h => f6.out h), (fun h => f7.out h), (fun h => f8.out h), (fun h => f9.out h), (fun h => f10.out h)⟩
            · intro L vs W hlen hL hD hI K hK
              obtain ⟨x0, x1, x2, x3, x4, x5, x6, x7, x8, x9, x10, rfl⟩ := len11 hlen
              have hG := hI.1
              replace hI := hI.2
              have f0 := hide hI.1
              replace hI := hI.2
              have f1 := hide hI.1
              replace hI := hI.2
              have f2 := hide hI.1
              replace hI := hI.2
              have f3 := hide hI.1
              replace hI := hI.2
              have f4 := hide hI.1
              replace hI := hI.2
              have f5 := hide hI.1
              replace hI := hI.2
              have f6 := hide hI.1
              replace hI := hI.2
              have f7 := hide hI.1
              replace hI := hI.2
              have f8 := hide hI.1
              replace hI := hI.2
              have f9 := hide hI.1
              replace hI := hI.2
              have f10 := hide hI
              clear hI
              obtain rfl := f4.out (hD.on 4 (by kernel_rfl))
              try simp only [puts, Act.put, List.setIfInBounds_toArray, List.set_cons_zero, List.set_cons_succ]
              try go_simp
              exact hK.out _ _ _ (by simp only [puts, Act.put, List.setIfInBounds_toArray, List.set_cons_zero, List.set_cons_succ] <;> rfl) ⟨hG, (fun h => f0.out h), (fun h => f1.out h), (fun h => f2.out h), (fun h => f3.out h), (fun h => f4.out h), (fun _ => rfl), (fun h => f6.out h), (fun h => f7.out h), (fun h => f8.out h), (fun h => f9.out h), (fun h => f10.out h)⟩
            · intro L vs W hlen hL hD hI K hK
              obtain ⟨x0, x1, x2, x3, x4, x5, x6, x7, x8, x9, x10, rfl⟩ := len11 hlen
              have hG := hI.1
              replace hI := hI.2
              have f0 := hide hI.1
              replace hI := hI.2
              have f1 := hide hI.1
              replace hI := hI.2
              have f2 := hide hI.1
              replace hI := hI.2
              have f3 := hide hI.1
              replace hI := hI.2
              have f4 := hide hI.1
              replace hI := hI.2
              have f5 := hide hI.1
              replace hI := hI.2
              have f6 := hide hI.1
              replace hI := hI.2
              have f7 := hide hI.1
              replace hI := hI.2
              have f8 := hide hI.1
              replace hI := hI.2
              have f9 := hide hI.1
              replace hI := hI.2
              have f10 := hide hI
              clear hI
              obtain rfl := f2.out (hD.on 2 (by kernel_rfl))
              obtain rfl := f5.out (hD.on 5 (by kernel_rfl))
              try simp only [puts, Act.put, List.setIfInBounds_toArray, List.set_cons_zero, List.set_cons_succ]
              try go_simp
              refine (HPK.out _).mono ?_
              rintro e W' ⟨rfl, rfl⟩
              try go_simp
              exact hK.out _ _ _ (by simp only [puts, Act.put, List.setIfInBounds_toArray, List.set_cons_zero, List.set_cons_succ] <;> rfl) ⟨hG, (fun h => f0.out h), (fun h => f1.out h), (fun h => f2.out h), (fun h => f3.out h), (fun h => f4.out h), (fun h => f5.out h), (fun _ => rfl), (fun h => f7.out h), (fun h => f8.out h), (fun h => f9.out h), (fun h => f10.out h)⟩
            · intro L vs W hlen hL hD hI K hK
              obtain ⟨x0, x1, x2, x3, x4, x5, x6, x7, x8, x9, x10, rfl⟩ := len11 hlen
              have hG := hI.1
              replace hI := hI.2
              have f0 := hide hI.1
              replace hI := hI.2
              have f1 := hide hI.1
              replace hI := hI.2
              have f2 := hide hI.1
              replace hI := hI.2
              have f3 := hide hI.1
              replace hI := hI.2
              have f4 := hide hI.1
              replace hI := hI.2
              have f5 := hide hI.1
              replace hI := hI.2
              have f6 := hide hI.1
              replace hI := hI.2
              have f7 := hide hI.1
              replace hI := hI.2
              have f8 := hide hI.1
              replace hI := hI.2
              have f9 := hide hI.1
              replace hI := hI.2
              have f10 := hide hI
              clear hI
              try simp only [puts, Act.put, List.setIfInBounds_toArray, List.set_cons_zero, List.set_cons_succ]
              try go_simp
              exact hK.out _ _ _ (by simp only [puts, Act.put, List.setIfInBounds_toArray, List.set_cons_zero, List.set_cons_succ] <;> rfl) ⟨hG, (fun h => f0.out h), (fun h => f1.out h), (fun h => f2.out h), (fun h => f3.out h), (fun h => f4.out h), (fun h => f5.out h), (fun h => f6.out h), (fun _ => rfl), (fun h => f8.out h), (fun h => f9.out h), (fun h => f10.out h)⟩
            · intro L vs W hlen hL hD hI K hK
              obtain ⟨x0, x1, x2, x3, x4, x5, x6, x7, x8, x9, x10, rfl⟩ := len11 hlen
              have hG := hI.1
              replace hI := hI.2
              have f0 := hide hI.1
              replace hI := hI.2
              have f1 := hide hI.1
              replace hI := hI.2
              have f2 := hide hI.1
              replace hI := hI.2
              have f3 := hide hI.1
              replace hI := hI.2
              have f4 := hide hI.1
              replace hI := hI.2
              have f5 := hide hI.1
              replace hI := hI.2
              have f6 := hide hI.1
              replace hI := hI.2
              have f7 := hide hI.1
              replace hI := hI.2
              have f8 := hide hI.1
              replace hI := hI.2
              have f9 := hide hI.1
              replace hI := hI.2
              have f10 := hide hI
              clear hI
              obtain rfl := f1.out (hD.on 1 (by kernel_rfl))
              obtain rfl := f6.out (hD.on 6 (by kernel_rfl))
              try simp only [puts, Act.put, List.setIfInBounds_toArray, List.set_cons_zero, List.set_cons_succ]
              try go_simp
              exact hK.out _ _ _ (by simp only [puts, Act.put, List.setIfInBounds_toArray, List.set_cons_zero, List.set_cons_succ] <;> rfl) ⟨hG, (fun h => f0.out h), (fun h => f1.out h), (fun h => f2.out h), (fun h => f3.out h), (fun h => f4.out h), (fun h => f5.out h), (fun h => f6.out h), (fun h => f7.out h), (fun _ => rfl), (fun h => f9.out h), (fun h => f10.out h)⟩
            · intro L vs W hlen hL hD hI K hK
              obtain ⟨x0, x1, x2, x3, x4, x5, x6, x7, x8, x9, x10, rfl⟩ := len11 hlen
              have hG := hI.1
              replace hI := hI.2
              have f0 := hide hI.1
              replace hI := hI.2
              have f1 := hide hI.1
              replace hI := hI.2
              have f2 := hide hI.1
              replace hI := hI.2
              have f3 := hide hI.1
              replace hI := hI.2
              have f4 := hide hI.1
              replace hI := hI.2
              have f5 := hide hI.1
              replace hI := hI.2
              have f6 := hide hI.1
              replace hI := hI.2
              have f7 := hide hI.1
              replace hI := hI.2
              have f8 := hide hI.1
              replace hI := hI.2
              have f9 := hide hI.1
              replace hI := hI.2
              have f10 := hide hI
              clear hI
              obtain rfl := f8.out (hD.on 8 (by kernel_rfl))
              try simp only [puts, Act.put, List.setIfInBounds_toArray, List.set_cons_zero, List.set_cons_succ]
              try go_simp
              exact hK.out _ _ _ (by simp only [puts, Act.put, List.setIfInBounds_toArray, List.set_cons_zero, List.set_cons_succ] <;> rfl) ⟨hG, (fun h => f0.out h), (fun h => f1.out h), (fun h => f2.out h), (fun h => f3.out h), (fun h => f4.out h), (fun h => f5.out h), (fun h => f6.out h), (fun h => f7.out h), (fun h => f8.out h), (fun _ => rfl), (fun h => f10.out h)⟩
            · intro L vs W hlen hL hD hI K hK
              obtain ⟨x0, x1, x2, x3, x4, x5, x6, x7, x8, x9, x10, rfl⟩ := len11 hlen
              have hG := hI.1
              replace hI := hI.2
              have f0 := hide hI.1
              replace hI := hI.2
              have f1 := hide hI.1
              replace hI := hI.2
              have f2 := hide hI.1
              replace hI := hI.2
              have f3 := hide hI.1
              replace hI := hI.2
              have f4 := hide hI.1
              replace hI := hI.2
              have f5 := hide hI.1
              replace hI := hI.2
              have f6 := hide hI.1
              replace hI := hI.2
              have f7 := hide hI.1
              replace hI := hI.2
              have f8 := hide hI.1
              replace hI := hI.2
              have f9 := hide hI.1
              replace hI := hI.2
              have f10 := hide hI
              clear hI
              obtain rfl := f7.out (hD.on 7 (by kernel_rfl))
              obtain rfl := f9.out (hD.on 9 (by kernel_rfl))
              try simp only [puts, Act.put, List.setIfInBounds_toArray, List.set_cons_zero, List.set_cons_succ]
              have hbW := hG.2 hL
              obtain ⟨z0, v0, zc⟩ := HAT.out _ hbW
              go_simp
              have hb : True := trivial
              exact hK.out _ undef _ (by simp only [puts, Act.put, List.setIfInBounds_toArray, List.set_cons_zero, List.set_cons_succ] <;> rfl) ⟨⟨hG.1.other hgO _ _, fun h => by cases h⟩, (fun h => f0.out h), (fun h => f1.out h), (fun h => f2.out h), (fun h => f3.out h), (fun h => f4.out h), (fun h => f5.out h), (fun h => f6.out h), (fun h => f7.out h), (fun h => f8.out h), (fun h => f9.out h), (fun _ => ⟨W, hG.2 hL, rfl⟩)⟩
          intro L vs W hlen hall hI
          obtain ⟨x0, x1, x2, x3, x4, x5, x6, x7, x8, x9, x10, rfl⟩ := len11 hlen
          have hG := hI.1
          replace hI := hI.2
          have f0 := hide hI.1
          replace hI := hI.2
          have f1 := hide hI.1
          replace hI := hI.2
          have f2 := hide hI.1
          replace hI := hI.2
          have f3 := hide hI.1
          replace hI := hI.2
          have f4 := hide hI.1
          replace hI := hI.2
          have f5 := hide hI.1
          replace hI := hI.2
          have f6 := hide hI.1
          replace hI := hI.2
          have f7 := hide hI.1
          replace hI := hI.2
          have f8 := hide hI.1
          replace hI := hI.2
          have f9 := hide hI.1
          replace hI := hI.2
          have f10 := hide hI
          clear hI
          obtain rfl := f0.out (hall 0 (by decide))
          obtain rfl := f1.out (hall 1 (by decide))
          obtain rfl := f2.out (hall 2 (by decide))
          obtain rfl := f3.out (hall 3 (by decide))
          obtain rfl := f4.out (hall 4 (by decide))
          obtain rfl := f5.out (hall 5 (by decide))
          obtain rfl := f6.out (hall 6 (by decide))
          obtain rfl := f7.out (hall 7 (by decide))
          obtain rfl := f8.out (hall 8 (by decide))
          obtain rfl := f9.out (hall 9 (by decide))
          have g10 := f10.out (hall 10 (by decide))
          have hal := hide hall
          clear hall f0 f1 f2 f3 f4 f5 f6 f7 f8 f9 f10
          try simp only [puts, Act.put, List.setIfInBounds_toArray, List.set_cons_zero, List.set_cons_succ]
          obtain ⟨Wp, hbp, rfl⟩ := g10
          have hoz := HPUT.out Wp hbp
          have bOz := (bO.later hbp).other hgO (K * 6 + 1) (.int .i64 n)
          have bRz := (bR.later hbp).other (show w.heap.size + 1 ≠ g by omega) (K * 6 + 1) (.int .i64 n)
          have hwz : Below w.heap.size w (Wp.setCell ⟨g, K * 6 + 1, none⟩ (.int .i64 n)) := (below2 hw2 hbp).setCell (p := ⟨g, K * 6 + 1, none⟩) (by show w.heap.size ≤ g; omega) _
          generalize Wp.setCell ⟨g, K * 6 + 1, none⟩ (.int .i64 n) = Wz at hoz bOz bRz hwz hG ⊢
          clear hG hal HPUT HAT HPK hbp bO bR hco hre0 hfa0 hcl0
          have o0 := bOz.cell 0 rfl
          have o1 := bOz.cell 1 rfl
          have o2 := bOz.cell 2 rfl
          have r0 := bRz.cell 0 rfl
          have r1 := bRz.cell 1 rfl
          have r2 := bRz.cell 2 rfl
          have rf0 := bRz.frozen 0
          have rf1 := bRz.frozen 1
          have rf2 := bRz.frozen 2
          have HOZ := hide hoz
          have HWZ := hide hwz
          clear hoz hwz
          go_wp2_with fail
          have q1 := bRz.set 0 (.slice ca2 c.clauses.length cn2)
          have q2 := q1.set 1 (.slice ra2 c.repeals.length rn2)
          have q := q2.set 2 (.slice (some ⟨g, 0, none⟩) c.facts.length fn2)
          have x0 := q.cell 0 rfl
          have x1 := q.cell 1 rfl
          have x2 := q.cell 2 rfl
          refine bodyPost_ret (v := .agg #[.slice ca2 c.clauses.length cn2, .slice ra2 c.repeals.length rn2, .slice (some ⟨g, 0, none⟩) c.facts.length fn2]) (by simp [results, Tryz.results6, go_sem, x0, x1, x2]) rfl ?_
          exact ⟨_, _, _, _, rfl, ((((HOZ.out.setO bRz _).setO q1 _).setO q2 _).at (C := 0) (Nat.zero_le _) (Nat.zero_le _)).keeps (keeps_frm _ _), ((HWZ.out.setCell (p := ⟨w.heap.size + 1, 0, none⟩) (by show w.heap.size ≤ w.heap.size + 1; omega) _).setCell (p := ⟨w.heap.size + 1, 1, none⟩) (by show w.heap.size ≤ w.heap.size + 1; omega) _).setCell (p := ⟨w.heap.size + 1, 2, none⟩) (by show w.heap.size ≤ w.heap.size + 1; omega) _⟩
end Go.Proofs.YtdjldidfnddpmaaGreat
