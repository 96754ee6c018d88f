/- Walks of package statute: isRight. Conditions: valid laws; the indices are in range; who answers and the list lie in memory. -/
import Derived.Test.YtdjldidfnddpmaaGreatDoorSpB
import Derived.Laws.EntriesVeiled
import Derived.Shelf.Abstract
import Derived.StillTailTactics
namespace Go.Proofs.YtdjldidfnddpmaaGreatDoor
open Go.RowKit
theorem contains_ret (l : List Int) (n : Int) (v : Value) (w : World) (hv : IntsIn w.cell? v l) : Calls Tryz.prog 73 #[v, .int .i64 n] w (Ret (.bool (l.any fun y => decide (n = y))) w) :=
  (contains_int l n v w hv).mono fun e w' ⟨e1, e2⟩ => ⟨e1, by subst e2; exact Below.refl _ _⟩
theorem any_idx {n : Int} {F : List Nat} (h : ((intsN F).any fun y => decide (n = y)) = true) : n.toNat ∈ F ∧ ((n.toNat : Nat) : Int) = n := by
  rw [List.any_eq_true] at h
  obtain ⟨y, hy, h1⟩ := h
  rw [decide_eq_true_eq] at h1
  subst h1
  exact intsN_mem hy
set_option maxHeartbeats 2000000 in
theorem right_any (J M : Nat) (cv rv fv Fv Cv lv : Value) (c : CodeD) (F C : List Nat) (hV : validC c = true) (hFl : ∀ i ∈ F, i < c.facts.length) (hCl : ∀ i ∈ C, i < c.clauses.length) (x : FindD) (l : List FindD)
    (w : World) (ks : List Int) (h : JudgeAt w J M cv rv fv Fv Cv c F C ks) (hl : FindsIn w.cell? lv l) : Calls Tryz.prog 54 #[.pointer (some ⟨J, 0, none⟩), findV x, lv] w (Ret (.bool (rightB c F C x l)) w) := by
  have H := hide h
  have HL := hide hl
  have HFl := hide hFl
  have HCl := hide hCl
  have hv3 : c.clauses.length ≤ 20 ∧ c.facts.length ≤ 20 := by
    simp only [validC, Bool.and_eq_true, decide_eq_true_eq] at hV; exact ⟨hV.1.1.1.1.1, hV.1.1.1.2⟩
  have HV3 := hide hv3
  obtain ⟨la, ln, rfl, -⟩ := id hl
  clear h hl hFl hCl hV hv3
  obtain ⟨xs, xh, xf, xc⟩ := x
  have kb : ∀ o1 o2 o3 o4 o5, Below w.heap.size w (((((w.alloc o1).alloc o2).alloc o3).alloc o4).alloc o5) := fun o1 o2 o3 o4 o5 => below2 (below2 (below2 (below2 (bal w o1) (bal _ o2)) (bal _ o3)) (bal _ o4)) (bal _ o5)
  have HJJ := hide H.out.blk
  obtain ⟨Fa, Fn, e1, -⟩ := id H.out.hF
  obtain ⟨Ca, Cn, e2, -⟩ := id H.out.hC
  rw [intsN_len] at e1 e2
  subst e1 e2
  have j3 := fun o1 o2 o3 o4 o5 => keep (kb o1 o2 o3 o4 o5) (HJJ.out.cell 3 rfl)
  have j4 := fun o1 o2 o3 o4 o5 => keep (kb o1 o2 o3 o4 o5) (HJJ.out.cell 4 rfl)
  clear kb
  cases xh
  · have HR := hide (right_none (c := c) (F := F) (C := C) (x := ⟨xs, false, xf, xc⟩) (l := l) rfl)
    by_cases hf : xf = -1
    · by_cases hc : xc = -1
      · subst hf
        subst hc
        go_enter Tryz.func54, Tryz.ntmps54
        go_wp2_with fail
        generalize hX1 : World.alloc w _ = X1
        have zX1 : X1.heap.size = w.heap.size + 1 := by rw [← hX1]; simp
        have bX1 : Below w.heap.size w X1 := by rw [← hX1]; exact bal w _
        have bJ_1 : Blk X1 (w.heap.size) [.pointer (some ⟨J, 0, none⟩)] 80 := by rw [← hX1]; exact Blk.newA w _ (by first | rfl | simp)
        generalize hX2 : World.alloc X1 _ = X2
        have zX2 : X2.heap.size = w.heap.size + 1 + 1 := by rw [← hX2]; simp [zX1]
        have bX2 : Below X1.heap.size X1 X2 := by rw [← hX2]; exact bal X1 _
        have bX_2 : Blk X2 (w.heap.size + 1) (findC ⟨xs, false, -1, -1⟩) 66 := by rw [← hX2, ← zX1]; exact Blk.newA X1 _ (by first | rfl | simp)
        have bJ_2 := bJ_1.later bX2
        generalize hX3 : World.alloc X2 _ = X3
        have zX3 : X3.heap.size = w.heap.size + 1 + 1 + 1 := by rw [← hX3]; simp [zX2]
        have bX3 : Below X2.heap.size X2 X3 := by rw [← hX3]; exact bal X2 _
        have bL_3 : Blk X3 (w.heap.size + 1 + 1) [.slice la l.length ln] 52 := by rw [← hX3, ← zX2]; exact Blk.newA X2 _ (by first | rfl | simp)
        have bJ_3 := bJ_2.later bX3
        have bX_3 := bX_2.later bX3
        generalize hX4 : World.alloc X3 _ = X4
        have zX4 : X4.heap.size = w.heap.size + 1 + 1 + 1 + 1 := by rw [← hX4]; simp [zX3]
        have bX4 : Below X3.heap.size X3 X4 := by rw [← hX4]; exact bal X3 _
        have bF_4 : Blk X4 (w.heap.size + 1 + 1 + 1) [.func (.func 67) #[] #[.pointer (some ⟨w.heap.size + 1 + 1, 0, none⟩)]] 123 := by rw [← hX4, ← zX3]; exact Blk.newA X3 _ (by first | rfl | simp)
        have bJ_4 := bJ_3.later bX4
        have bX_4 := bX_3.later bX4
        have bL_4 := bL_3.later bX4
        generalize hX5 : World.alloc X4 _ = X5
        have zX5 : X5.heap.size = w.heap.size + 1 + 1 + 1 + 1 + 1 := by rw [← hX5]; simp [zX4]
        have bX5 : Below X4.heap.size X4 X5 := by rw [← hX5]; exact bal X4 _
        have bB : Blk X5 (w.heap.size + 1 + 1 + 1 + 1) [.func (.func 70) #[] #[.pointer (some ⟨w.heap.size, 0, none⟩), .pointer (some ⟨w.heap.size + 1 + 1 + 1, 0, none⟩)]] 83 := by rw [← hX5, ← zX4]; exact Blk.newA X4 _ (by first | rfl | simp)
        have bJ := bJ_4.later bX5
        have bX := bX_4.later bX5
        have bL := bL_4.later bX5
        have bF := bF_4.later bX5
        have Xb := below2 (below2 (below2 (below2 (bX1) bX2) bX3) bX4) bX5
        have Xz := zX5
        clear hX1 zX1 bX1 hX2 zX2 bX2 hX3 zX3 bX3 hX4 zX4 bX4 hX5 zX5 bX5 bJ_1 bJ_2 bJ_3 bJ_4 bX_2 bX_3 bX_4 bL_3 bL_4 bF_4
        have HJX := hide (H.out.later Xb)
        have hFnd : Hid (FindsAt X5 (w.heap.size + 1 + 1 + 1) (w.heap.size + 1 + 1) (.slice la l.length ln) l) := hide ⟨bF.cell 0 rfl, bL.cell 0 rfl, HL.out.below Xb⟩
        refine (has_says c F HFl.out (by have := HV3.out; omega) ⟨xs, false, -1, -1⟩ fv _ J w.heap.size (w.heap.size + 1) X5 HJX.out.code.fa (HJX.out.blk.cell 2 rfl) (bJ.cell 0 rfl) (bX.cell 0 rfl) HJX.out.hF).mono ?_
        rintro e w2 ⟨rfl, hw2⟩
        have X2' := below2 Xb hw2
        have HJ2 := hide (HJX.out.later hw2)
        have bJ2 := bJ.later hw2
        have pj := bJ2.cell 0 rfl
        have k4 := HJ2.out.blk.cell 4 rfl
        have HU := hide (has_unbarred c C HCl.out (by have := HV3.out; omega) ⟨xs, false, -1, -1⟩ l cv _ _ J w.heap.size (w.heap.size + 1) (w.heap.size + 1 + 1 + 1) (w.heap.size + 1 + 1) (w.heap.size + 1 + 1 + 1 + 1) w2 HJ2.out.code.cl (HJ2.out.blk.cell 0 rfl) pj ((bX.later hw2).cell 0 rfl) (hFnd.out.later hw2) ((bB.later hw2).cell 0 rfl) HJ2.out.hC)
        have HR' : Hid (rightB c F C ⟨xs, false, -1, -1⟩ l = (!F.any (saysB c xs) && !C.any fun i => decide ((c.clauses.getD i clause0).gives = xs) && !barredB c l i)) := hide (by rw [HR.out]; simp)
        clear HR j3 j4
        dsimp only at HU ⊢
        generalize (C.any fun i => decide ((c.clauses.getD i clause0).gives = xs) && !barredB c l i) = b2 at HU HR'
        generalize F.any (saysB c xs) = b1 at HR' ⊢
        cases b1
        · go_wp2_with fail
          refine HU.out.mono ?_
          rintro e w3 ⟨rfl, hw3⟩
          go_wp2_with fail
          go_ret
          exact ⟨ret_bool (by rw [HR'.out]; rfl), below2 X2' hw3⟩
        · go_wp2_with fail
          go_ret
          exact ⟨ret_bool (by rw [HR'.out]; rfl), X2'⟩
      · have e' : (xc == (-1 : Int)) = false := by simp [hc]
        have HE := hide hc
        have HR' : Hid (rightB c F C ⟨xs, false, xf, xc⟩ l = false) := hide (by rw [HR.out, decide_eq_false HE.out]; simp)
        clear HR j3 j4 hc
        go_enter Tryz.func54, Tryz.ntmps54
        go_wp2_with fail
        go_ret
        exact ⟨ret_bool HR'.out.symm, below2 (below2 (below2 (below2 (bal w _) (bal _ _)) (bal _ _)) (bal _ _)) (bal _ _)⟩
    · have e' : (xf == (-1 : Int)) = false := by simp [hf]
      have HE := hide hf
      have HR' : Hid (rightB c F C ⟨xs, false, xf, xc⟩ l = false) := hide (by rw [HR.out, decide_eq_false HE.out]; simp)
      clear HR j3 j4 hf
      go_enter Tryz.func54, Tryz.ntmps54
      go_wp2_with fail
      go_ret
      exact ⟨ret_bool HR'.out.symm, below2 (below2 (below2 (below2 (bal w _) (bal _ _)) (bal _ _)) (bal _ _)) (bal _ _)⟩
  · by_cases hc : xc = -1
    · subst hc
      have HR := hide (right_fact (c := c) (F := F) (C := C) (x := ⟨xs, true, xf, -1⟩) (l := l) rfl rfl)
      clear j3 j4
      dsimp only at HR
      go_enter Tryz.func54, Tryz.ntmps54
      go_wp2_with fail
      generalize hX1 : World.alloc w _ = X1
      have zX1 : X1.heap.size = w.heap.size + 1 := by rw [← hX1]; simp
      have bX1 : Below w.heap.size w X1 := by rw [← hX1]; exact bal w _
      have bJ_1 : Blk X1 (w.heap.size) [.pointer (some ⟨J, 0, none⟩)] 80 := by rw [← hX1]; exact Blk.newA w _ (by first | rfl | simp)
      generalize hX2 : World.alloc X1 _ = X2
      have zX2 : X2.heap.size = w.heap.size + 1 + 1 := by rw [← hX2]; simp [zX1]
      have bX2 : Below X1.heap.size X1 X2 := by rw [← hX2]; exact bal X1 _
      have bX_2 : Blk X2 (w.heap.size + 1) (findC ⟨xs, true, xf, -1⟩) 66 := by rw [← hX2, ← zX1]; exact Blk.newA X1 _ (by first | rfl | simp)
      have bJ_2 := bJ_1.later bX2
      generalize hX3 : World.alloc X2 _ = X3
      have zX3 : X3.heap.size = w.heap.size + 1 + 1 + 1 := by rw [← hX3]; simp [zX2]
      have bX3 : Below X2.heap.size X2 X3 := by rw [← hX3]; exact bal X2 _
      have bL_3 : Blk X3 (w.heap.size + 1 + 1) [.slice la l.length ln] 52 := by rw [← hX3, ← zX2]; exact Blk.newA X2 _ (by first | rfl | simp)
      have bJ_3 := bJ_2.later bX3
      have bX_3 := bX_2.later bX3
      generalize hX4 : World.alloc X3 _ = X4
      have zX4 : X4.heap.size = w.heap.size + 1 + 1 + 1 + 1 := by rw [← hX4]; simp [zX3]
      have bX4 : Below X3.heap.size X3 X4 := by rw [← hX4]; exact bal X3 _
      have bF_4 : Blk X4 (w.heap.size + 1 + 1 + 1) [.func (.func 67) #[] #[.pointer (some ⟨w.heap.size + 1 + 1, 0, none⟩)]] 123 := by rw [← hX4, ← zX3]; exact Blk.newA X3 _ (by first | rfl | simp)
      have bJ_4 := bJ_3.later bX4
      have bX_4 := bX_3.later bX4
      have bL_4 := bL_3.later bX4
      generalize hX5 : World.alloc X4 _ = X5
      have zX5 : X5.heap.size = w.heap.size + 1 + 1 + 1 + 1 + 1 := by rw [← hX5]; simp [zX4]
      have bX5 : Below X4.heap.size X4 X5 := by rw [← hX5]; exact bal X4 _
      have bB : Blk X5 (w.heap.size + 1 + 1 + 1 + 1) [.func (.func 70) #[] #[.pointer (some ⟨w.heap.size, 0, none⟩), .pointer (some ⟨w.heap.size + 1 + 1 + 1, 0, none⟩)]] 83 := by rw [← hX5, ← zX4]; exact Blk.newA X4 _ (by first | rfl | simp)
      have bJ := bJ_4.later bX5
      have bX := bX_4.later bX5
      have bL := bL_4.later bX5
      have bF := bF_4.later bX5
      have Xb := below2 (below2 (below2 (below2 (bX1) bX2) bX3) bX4) bX5
      have Xz := zX5
      clear hX1 zX1 bX1 hX2 zX2 bX2 hX3 zX3 bX3 hX4 zX4 bX4 hX5 zX5 bX5 bJ_1 bJ_2 bJ_3 bJ_4 bX_2 bX_3 bX_4 bL_3 bL_4 bF_4
      have HJX := hide (H.out.later Xb)
      have HCI := hide (fun (i : Bw X5.heap.size X5) => contains_ret (intsN F) xf _ i.W (HJX.out.hF.keeps (keeps_of_below i.h)))
      have pj := bwc (bJ.cell 0 rfl)
      have p1 := bwc (HJX.out.blk.cell 3 rfl)
      have p2 := bwc (HJX.out.blk.cell 2 rfl)
      have x0 := bwc (bX.cell 0 rfl)
      have x2 := bwc (bX.cell 2 rfl)
      have HXb := hide Xb
      cases hb : (intsN F).any fun y => decide (xf = y)
      · rw [hb] at HCI HR
        clear hb Xb Xz bJ bX bL bF bB
        refine wp_region_bw (by kernel_rfl) (by kernel_rfl) ?_
        repeat (go_big_quiet_step ((go_at_call 73; exact quiet (HCI.out _))))
        refine wpQuiet_nil ?_
        rintro _ ⟨i, rfl⟩
        go_wp2_with fail
        go_ret
        exact ⟨ret_bool (by rw [HR.out]; rfl), below2 HXb.out i.h⟩
      · rw [hb] at HCI HR
        obtain ⟨hm, hx⟩ := any_idx hb
        have hlt := HFl.out _ hm
        obtain ⟨fa, fn, hfv, hf1, hf2, hfc⟩ := HJX.out.code.fa
        subst hfv
        obtain ⟨b, o, rfl, hck⟩ := hfc _ hlt
        have hltI : (xf : Int) < c.facts.length := by omega
        have h0I : 0 ≤ xf := by omega
        have HS : Hid (saysB c xs xf.toNat = decide ((c.facts.getD xf.toNat fact0).says = xs)) := hide rfl
        have f1 := bwc (hck 1 _ rfl)
        generalize (c.facts.getD xf.toNat fact0).says = fs at f1 HS
        generalize hk : xf.toNat = k at *
        subst hx
        clear hb Xb Xz bJ bX bL bF bB hm hfc hck
        by_cases e : fs = xs
        · have e' : (fs == xs) = true := by simp [e]
          have HE := hide (decide_eq_true e)
          clear e
          refine wp_region_bw (by kernel_rfl) (by kernel_rfl) ?_
          repeat (go_big_quiet_step ((go_at_call 73; exact quiet (HCI.out _))))
          refine wpQuiet_nil ?_
          rintro _ ⟨i, rfl⟩
          go_wp2_with fail
          go_ret
          exact ⟨ret_bool (by rw [HR.out, HS.out, HE.out]; rfl), below2 HXb.out i.h⟩
        · have e' : (fs == xs) = false := by simp [e]
          have HE := hide (decide_eq_false e)
          clear e
          refine wp_region_bw (by kernel_rfl) (by kernel_rfl) ?_
          repeat (go_big_quiet_step ((go_at_call 73; exact quiet (HCI.out _))))
          refine wpQuiet_nil ?_
          rintro _ ⟨i, rfl⟩
          go_wp2_with fail
          go_ret
          exact ⟨ret_bool (by rw [HR.out, HS.out, HE.out]; rfl), below2 HXb.out i.h⟩
    · have hcb : (xc == (-1 : Int)) = false := by simp [hc]
      have HR := hide (right_clause (c := c) (F := F) (C := C) (x := ⟨xs, true, xf, xc⟩) (l := l) rfl hc)
      clear j3 j4 hc
      dsimp only at HR
      by_cases hf : xf = -1
      · subst hf
        go_enter Tryz.func54, Tryz.ntmps54
        go_wp2_with fail
        generalize hX1 : World.alloc w _ = X1
        have zX1 : X1.heap.size = w.heap.size + 1 := by rw [← hX1]; simp
        have bX1 : Below w.heap.size w X1 := by rw [← hX1]; exact bal w _
        have bJ_1 : Blk X1 (w.heap.size) [.pointer (some ⟨J, 0, none⟩)] 80 := by rw [← hX1]; exact Blk.newA w _ (by first | rfl | simp)
        generalize hX2 : World.alloc X1 _ = X2
        have zX2 : X2.heap.size = w.heap.size + 1 + 1 := by rw [← hX2]; simp [zX1]
        have bX2 : Below X1.heap.size X1 X2 := by rw [← hX2]; exact bal X1 _
        have bX_2 : Blk X2 (w.heap.size + 1) (findC ⟨xs, true, -1, xc⟩) 66 := by rw [← hX2, ← zX1]; exact Blk.newA X1 _ (by first | rfl | simp)
        have bJ_2 := bJ_1.later bX2
        generalize hX3 : World.alloc X2 _ = X3
        have zX3 : X3.heap.size = w.heap.size + 1 + 1 + 1 := by rw [← hX3]; simp [zX2]
        have bX3 : Below X2.heap.size X2 X3 := by rw [← hX3]; exact bal X2 _
        have bL_3 : Blk X3 (w.heap.size + 1 + 1) [.slice la l.length ln] 52 := by rw [← hX3, ← zX2]; exact Blk.newA X2 _ (by first | rfl | simp)
        have bJ_3 := bJ_2.later bX3
        have bX_3 := bX_2.later bX3
        generalize hX4 : World.alloc X3 _ = X4
        have zX4 : X4.heap.size = w.heap.size + 1 + 1 + 1 + 1 := by rw [← hX4]; simp [zX3]
        have bX4 : Below X3.heap.size X3 X4 := by rw [← hX4]; exact bal X3 _
        have bF_4 : Blk X4 (w.heap.size + 1 + 1 + 1) [.func (.func 67) #[] #[.pointer (some ⟨w.heap.size + 1 + 1, 0, none⟩)]] 123 := by rw [← hX4, ← zX3]; exact Blk.newA X3 _ (by first | rfl | simp)
        have bJ_4 := bJ_3.later bX4
        have bX_4 := bX_3.later bX4
        have bL_4 := bL_3.later bX4
        generalize hX5 : World.alloc X4 _ = X5
        have zX5 : X5.heap.size = w.heap.size + 1 + 1 + 1 + 1 + 1 := by rw [← hX5]; simp [zX4]
        have bX5 : Below X4.heap.size X4 X5 := by rw [← hX5]; exact bal X4 _
        have bB : Blk X5 (w.heap.size + 1 + 1 + 1 + 1) [.func (.func 70) #[] #[.pointer (some ⟨w.heap.size, 0, none⟩), .pointer (some ⟨w.heap.size + 1 + 1 + 1, 0, none⟩)]] 83 := by rw [← hX5, ← zX4]; exact Blk.newA X4 _ (by first | rfl | simp)
        have bJ := bJ_4.later bX5
        have bX := bX_4.later bX5
        have bL := bL_4.later bX5
        have bF := bF_4.later bX5
        have Xb := below2 (below2 (below2 (below2 (bX1) bX2) bX3) bX4) bX5
        have Xz := zX5
        clear hX1 zX1 bX1 hX2 zX2 bX2 hX3 zX3 bX3 hX4 zX4 bX4 hX5 zX5 bX5 bJ_1 bJ_2 bJ_3 bJ_4 bX_2 bX_3 bX_4 bL_3 bL_4 bF_4
        have HJX := hide (H.out.later Xb)
        have HCI := hide (fun (i : Bw X5.heap.size X5) => contains_ret (intsN C) xc _ i.W (HJX.out.hC.keeps (keeps_of_below i.h)))
        have pj := bwc (bJ.cell 0 rfl)
        have p1 := bwc (HJX.out.blk.cell 4 rfl)
        have p2 := bwc (HJX.out.blk.cell 0 rfl)
        have x0 := bwc (bX.cell 0 rfl)
        have x2 := bwc (bX.cell 2 rfl)
        have x3 := bwc (bX.cell 3 rfl)
        have HXb := hide Xb
        cases hb : (intsN C).any fun y => decide (xc = y)
        · rw [hb] at HCI HR
          clear hb Xb Xz bJ bX bL bF bB
          refine wp_region_bw (by kernel_rfl) (by kernel_rfl) ?_
          repeat (go_big_quiet_step ((go_at_call 73; exact quiet (HCI.out _))))
          refine wpQuiet_nil ?_
          rintro _ ⟨i, rfl⟩
          go_wp2_with fail
          go_ret
          exact ⟨ret_bool (by rw [HR.out]; rfl), below2 HXb.out i.h⟩
        · rw [hb] at HCI HR
          obtain ⟨hm, hx⟩ := any_idx hb
          have hlt := HCl.out _ hm
          obtain ⟨va, vn, hcv, hf1, hf2, hfc⟩ := HJX.out.code.cl
          subst hcv
          obtain ⟨b, o, nv, bv, rfl, k0, k1, k2, k3, k4, k5, kn, kb⟩ := hfc _ hlt
          have hltI : (xc : Int) < c.clauses.length := by omega
          have h0I : 0 ≤ xc := by omega
          generalize c.clauses.getD xc.toNat clause0 = y at k0 k1 k2 k3 k4 k5 kn kb HR
          generalize hk : xc.toNat = k at *
          subst hx
          have HFA : Hid (FindsAt X5 (w.heap.size + 1 + 1 + 1) (w.heap.size + 1 + 1) (.slice la l.length ln) l) := hide ⟨bF.cell 0 rfl, bL.cell 0 rfl, HL.out.below Xb⟩
          have f5 := bwc k5
          have HK := hide (And.intro k0 (And.intro k1 (And.intro k2 (And.intro k3 (And.intro k4 (And.intro k5 (And.intro kn kb)))))))
          have HBJ := hide bJ
          have HBX := hide bX
          clear hb Xb Xz bJ bX bL bF bB hm hfc k0 k1 k2 k3 k4 k5 kn kb
          by_cases e : y.gives = xs
          · have e' : (y.gives == xs) = true := by simp [e]
            have HE := hide (decide_eq_true e)
            clear e
            refine wp_region_bw (by kernel_rfl) (by kernel_rfl) ?_
            repeat (go_big_quiet_step ((go_at_call 73; exact quiet (HCI.out _))))
            refine wpQuiet_nil ?_
            rintro _ ⟨i, rfl⟩
            have HB := hide (below2 HXb.out i.h)
            have HJI := hide (HJX.out.later i.h)
            have HFI := hide (HFA.out.later i.h)
            obtain ⟨k0, k1, k2, k3, k4, k5, kn, kb⟩ := HK.out
            have HKN := hide (kn.keeps (keeps_of_below i.h))
            have HKB := hide (kb.keeps (keeps_of_below i.h))
            replace k0 := keep i.h k0
            replace k1 := keep i.h k1
            replace k2 := keep i.h k2
            replace k3 := keep i.h k3
            replace k4 := keep i.h k4
            replace k5 := keep i.h k5
            replace pj := (HBJ.out.later i.h).cell 0 rfl
            replace x3 := (HBX.out.later i.h).cell 3 rfl
            replace p2 := HJI.out.blk.cell 0 rfl
            clear kn kb f5 HK x0 x2 p1 HCI
            generalize i.W = W1 at *
            clear i
            obtain ⟨na, nn, rfl, -⟩ := id HKN.out
            obtain ⟨ba, bn, rfl, -⟩ := id HKB.out
            have kpj := fun o => keep (bal W1 o) pj
            have kx3 := fun o => keep (bal W1 o) x3
            have kp2 := fun o => keep (bal W1 o) p2
            have kk0 := fun o => keep (bal W1 o) k0
            have kk1 := fun o => keep (bal W1 o) k1
            have kk2 := fun o => keep (bal W1 o) k2
            have kk3 := fun o => keep (bal W1 o) k3
            have kk4 := fun o => keep (bal W1 o) k4
            have kk5 := fun o => keep (bal W1 o) k5
            go_wp2_with fail
            go_region
            generalize hW2 : World.drew _ = W2
            have bY : Blk W2 W1.heap.size (clauseC y (.slice na y.needs.length nn) (.slice ba y.bars.length bn)) 38 := by rw [← hW2]; exact Blk.new W1 _ _
            have hb2 : Below W1.heap.size W1 W2 := by rw [← hW2]; exact (bal W1 _).drew
            have HF2 := hide (HFI.out.later hb2)
            have HN2 := hide (hasn3_any l y.needs _ _ _ _ W2 HF2.out (HKN.out.keeps (keeps_of_below hb2)))
            have HM2 := hide (fun W (hb : Below W2.heap.size W2 W) => hasn4_any l y.bars _ _ _ _ W (HF2.out.later hb) (HKB.out.keeps (keeps_of_below (below2 hb2 hb))))
            have y2 := bY.cell 3 rfl
            have HBY := hide bY
            have HBW := hide (below2 HB.out hb2)
            clear hW2 bY hb2 pj x3 p2 k0 k1 k2 k3 k4 k5 kpj kx3 kp2 kk0 kk1 kk2 kk3 kk4 kk5
            generalize (y.needs.any fun n => !findsB l n true) = b1 at HN2 HR
            generalize (y.bars.any fun n => !findsB l n false) = b2 at HM2 HR
            go_wp2_with fail
            refine HN2.out.mono ?_
            rintro e w3 ⟨rfl, hw3⟩
            cases b1
            · have y3 := (HBY.out.later hw3).cell 4 rfl
              go_wp2_with fail
              refine (HM2.out _ hw3).mono ?_
              rintro e w4 ⟨rfl, hw4⟩
              go_wp2_with fail
              go_ret
              exact ⟨ret_bool (by rw [HR.out, HE.out]; cases b2 <;> rfl), below2 (below2 HBW.out hw3) hw4⟩
            · go_wp2_with fail
              go_ret
              exact ⟨ret_bool (by rw [HR.out, HE.out]; rfl), below2 HBW.out hw3⟩
          · have e' : (y.gives == xs) = false := by simp [e]
            have HE := hide (decide_eq_false e)
            clear e
            refine wp_region_bw (by kernel_rfl) (by kernel_rfl) ?_
            repeat (go_big_quiet_step ((go_at_call 73; exact quiet (HCI.out _))))
            refine wpQuiet_nil ?_
            rintro _ ⟨i, rfl⟩
            go_wp2_with fail
            go_ret
            exact ⟨ret_bool (by rw [HR.out, HE.out]; rfl), below2 HXb.out i.h⟩
      · have hfb : (xf == (-1 : Int)) = false := by simp [hf]
        have hfn : (xf != (-1 : Int)) = true := by simp [hf]
        have HR' : Hid (rightB c F C ⟨xs, true, xf, xc⟩ l = false) := hide (by rw [HR.out, decide_eq_false hf]; rfl)
        clear HR hf
        go_enter Tryz.func54, Tryz.ntmps54
        go_wp2_with fail
        generalize hX1 : World.alloc w _ = X1
        have zX1 : X1.heap.size = w.heap.size + 1 := by rw [← hX1]; simp
        have bX1 : Below w.heap.size w X1 := by rw [← hX1]; exact bal w _
        have bJ_1 : Blk X1 (w.heap.size) [.pointer (some ⟨J, 0, none⟩)] 80 := by rw [← hX1]; exact Blk.newA w _ (by first | rfl | simp)
        generalize hX2 : World.alloc X1 _ = X2
        have zX2 : X2.heap.size = w.heap.size + 1 + 1 := by rw [← hX2]; simp [zX1]
        have bX2 : Below X1.heap.size X1 X2 := by rw [← hX2]; exact bal X1 _
        have bX_2 : Blk X2 (w.heap.size + 1) (findC ⟨xs, true, xf, xc⟩) 66 := by rw [← hX2, ← zX1]; exact Blk.newA X1 _ (by first | rfl | simp)
        have bJ_2 := bJ_1.later bX2
        generalize hX3 : World.alloc X2 _ = X3
        have zX3 : X3.heap.size = w.heap.size + 1 + 1 + 1 := by rw [← hX3]; simp [zX2]
        have bX3 : Below X2.heap.size X2 X3 := by rw [← hX3]; exact bal X2 _
        have bL_3 : Blk X3 (w.heap.size + 1 + 1) [.slice la l.length ln] 52 := by rw [← hX3, ← zX2]; exact Blk.newA X2 _ (by first | rfl | simp)
        have bJ_3 := bJ_2.later bX3
        have bX_3 := bX_2.later bX3
        generalize hX4 : World.alloc X3 _ = X4
        have zX4 : X4.heap.size = w.heap.size + 1 + 1 + 1 + 1 := by rw [← hX4]; simp [zX3]
        have bX4 : Below X3.heap.size X3 X4 := by rw [← hX4]; exact bal X3 _
        have bF_4 : Blk X4 (w.heap.size + 1 + 1 + 1) [.func (.func 67) #[] #[.pointer (some ⟨w.heap.size + 1 + 1, 0, none⟩)]] 123 := by rw [← hX4, ← zX3]; exact Blk.newA X3 _ (by first | rfl | simp)
        have bJ_4 := bJ_3.later bX4
        have bX_4 := bX_3.later bX4
        have bL_4 := bL_3.later bX4
        generalize hX5 : World.alloc X4 _ = X5
        have zX5 : X5.heap.size = w.heap.size + 1 + 1 + 1 + 1 + 1 := by rw [← hX5]; simp [zX4]
        have bX5 : Below X4.heap.size X4 X5 := by rw [← hX5]; exact bal X4 _
        have bB : Blk X5 (w.heap.size + 1 + 1 + 1 + 1) [.func (.func 70) #[] #[.pointer (some ⟨w.heap.size, 0, none⟩), .pointer (some ⟨w.heap.size + 1 + 1 + 1, 0, none⟩)]] 83 := by rw [← hX5, ← zX4]; exact Blk.newA X4 _ (by first | rfl | simp)
        have bJ := bJ_4.later bX5
        have bX := bX_4.later bX5
        have bL := bL_4.later bX5
        have bF := bF_4.later bX5
        have Xb := below2 (below2 (below2 (below2 (bX1) bX2) bX3) bX4) bX5
        have Xz := zX5
        clear hX1 zX1 bX1 hX2 zX2 bX2 hX3 zX3 bX3 hX4 zX4 bX4 hX5 zX5 bX5 bJ_1 bJ_2 bJ_3 bJ_4 bX_2 bX_3 bX_4 bL_3 bL_4 bF_4
        have x2 := bwc (bX.cell 2 rfl)
        have HXb := hide Xb
        clear Xb Xz bJ bX bL bF bB
        refine wp_region_bw (by kernel_rfl) (by kernel_rfl) ?_
        repeat (go_big_quiet_step (fail))
        refine wpQuiet_nil ?_
        rintro _ ⟨i, rfl⟩
        go_wp2_with fail
        go_ret
        exact ⟨ret_bool (by rw [HR'.out]), below2 HXb.out i.h⟩
end Go.Proofs.YtdjldidfnddpmaaGreatDoor
