/- Walks of package statute: the function values of isRight, slices.Contains at ints, and a finding is right. Conditions: how the laws, the lists and the caught variables lie in memory. -/
import Derived.Test.YtdjldidfnddpmaaGreatDoorSuB
namespace Go.Proofs.YtdjldidfnddpmaaGreatDoor
open Go.RowKit
set_option maxHeartbeats 400000 in
theorem findsc_any (y : FindD) (n : Int) (h : Bool) (bn bh : Nat) (w : World) (hn : w.cell? ⟨bn, 0, none⟩ = some (.int .i64 n)) (hh : w.cell? ⟨bh, 0, none⟩ = some (.bool h)) :
    Calls Tryz.prog 69 #[findV y, .pointer (some ⟨bn, 0, none⟩), .pointer (some ⟨bh, 0, none⟩)] w (Ret (.bool (decide (y.says = n) && (y.holds == h))) w) := by
  have n1 : ∀ o, (w.alloc o).cell? ⟨bn, 0, none⟩ = some (.int .i64 n) := fun o => keep (bal w o) hn
  have h1 : ∀ o, (w.alloc o).cell? ⟨bh, 0, none⟩ = some (.bool h) := fun o => keep (bal w o) hh
  by_cases e : y.says = n
  · have e' : (y.says == n) = true := by simp [e]
    have HE := hide (decide_eq_true e)
    clear e
    go_enter Tryz.func69, Tryz.ntmps69
    go_wp2_with fail
    go_ret
    exact ⟨ret_bool (by rw [HE.out]; simp), bal _ _⟩
  · have e' : (y.says == n) = false := by simp [e]
    have HE := hide (decide_eq_false e)
    clear e
    go_enter Tryz.func69, Tryz.ntmps69
    go_wp2_with fail
    go_ret
    exact ⟨ret_bool (by rw [HE.out]; simp), bal _ _⟩
set_option maxHeartbeats 400000 in
theorem finds_any (l : List FindD) (n : Int) (h : Bool) (lv : Value) (bl : Nat) (w : World) (hl : FindsIn w.cell? lv l) (hb : w.cell? ⟨bl, 0, none⟩ = some lv) :
    Calls Tryz.prog 67 #[.int .i64 n, .bool h, .pointer (some ⟨bl, 0, none⟩)] w (Ret (.bool (findsB l n h)) w) := by
  have HC : Hid (∀ W bn bh T T', Below w.heap.size w W → Blk W bn [.int .i64 n] T → Blk W bh [.bool h] T' → Calls Tryz.prog 68 #[lv, .func (.func 69) #[] #[.pointer (some ⟨bn, 0, none⟩), .pointer (some ⟨bh, 0, none⟩)]] W (RetI (fun W' => Below W.heap.size W W') (.bool (findsB l n h)))) :=
    hide fun W bn bh T T' hW hN hH => has_finds (fun W' => Below W.heap.size W W') 69 #[.pointer (some ⟨bn, 0, none⟩), .pointer (some ⟨bh, 0, none⟩)] (Go.Proofs.enters_of Tryz.func69 (by kernel_rfl) rfl) (fun y => decide (y.says = n) && (y.holds == h)) l lv W (fun W' hb => hl.below (below2 hW hb)) (Below.refl _ W) (fun W' hb y _ =>
      (findsc_any y n h bn bh W' ((hN.later hb).cell 0 rfl) ((hH.later hb).cell 0 rfl)).mono (fun e w' ⟨e1, e2⟩ => ⟨e1, below2 hb e2⟩))
  obtain ⟨a, m, rfl, -⟩ := id hl
  have b1 : ∀ o1 o2, ((w.alloc o1).alloc o2).cell? ⟨bl, 0, none⟩ = some (.slice a l.length m) := fun o1 o2 => keep (below2 (bal w o1) (bal _ o2)) hb
  generalize findsB l n h = b at HC ⊢
  clear hl
  go_enter Tryz.func67, Tryz.ntmps67
  go_wp2_with fail
  generalize hX1 : World.alloc w _ = X1
  have zX1 : X1.heap.size = w.heap.size + 1 := by rw [← hX1]; simp
  have bX1 : Below w.heap.size w X1 := by rw [← hX1]; exact bal w _
  have bN_1 : Blk X1 (w.heap.size) [.int .i64 n] 3 := by rw [← hX1]; exact Blk.newA w _ (by first | rfl | simp)
  generalize hX2 : World.alloc X1 _ = X2
  have zX2 : X2.heap.size = w.heap.size + 1 + 1 := by rw [← hX2]; simp [zX1]
  have bX2 : Below X1.heap.size X1 X2 := by rw [← hX2]; exact bal X1 _
  have bH : Blk X2 (w.heap.size + 1) [.bool h] 4 := by rw [← hX2, ← zX1]; exact Blk.newA X1 _ (by first | rfl | simp)
  have bN := bN_1.later bX2
  have Xb := below2 (bX1) bX2
  have Xz := zX2
  clear hX1 zX1 bX1 hX2 zX2 bX2 bN_1
  refine (HC.out _ _ _ _ _ Xb bN bH).mono ?_
  rintro e w2 ⟨rfl, hw2⟩
  go_wp2_with fail
  go_ret
  exact ⟨rfl, below2 Xb hw2⟩
/-- the function value finds, over a list -/
structure FindsAt (w : World) (bf bl : Nat) (lv : Value) (l : List FindD) : Prop where
  fn : w.cell? ⟨bf, 0, none⟩ = some (.func (.func 67) #[] #[.pointer (some ⟨bl, 0, none⟩)])
  li : w.cell? ⟨bl, 0, none⟩ = some lv
  hl : FindsIn w.cell? lv l
theorem FindsAt.later {w w' : World} {bf bl : Nat} {lv : Value} {l : List FindD} (h : FindsAt w bf bl lv l) (hb : Below w.heap.size w w') : FindsAt w' bf bl lv l := ⟨keep hb h.fn, keep hb h.li, h.hl.below hb⟩
set_option maxHeartbeats 400000 in
theorem findsb1_any (l : List FindD) (n : Int) (lv : Value) (bf bl : Nat) (w : World) (h : FindsAt w bf bl lv l) :
    Calls Tryz.prog 71 #[.int .i64 n, .pointer (some ⟨bf, 0, none⟩)] w (Ret (.bool (findsB l n false)) w) := by
  have HC := hide (finds_any l n false lv bl w h.hl h.li)
  have c0 := h.fn
  generalize findsB l n false = b at HC ⊢
  clear h
  go_enter Tryz.func71, Tryz.ntmps71
  go_wp2_with fail
  refine HC.out.mono ?_
  rintro e w2 ⟨rfl, hw2⟩
  go_wp2_with fail
  go_ret
  exact ⟨rfl, hw2⟩
/-- .. over a list of numbers -/
theorem hasb1_any (l : List FindD) (ns : List Int) (lv v : Value) (bf bl : Nat) (w : World) (h : FindsAt w bf bl lv l) (hv : IntsIn w.cell? v ns) :
    Calls Tryz.prog 61 #[v, .func (.func 71) #[] #[.pointer (some ⟨bf, 0, none⟩)]] w (Ret (.bool (ns.any fun n => findsB l n false)) w) :=
  has_ints (fun W' => Below w.heap.size w W') 71 #[.pointer (some ⟨bf, 0, none⟩)] (Go.Proofs.enters_of Tryz.func71 (by kernel_rfl) rfl) (fun n => findsB l n false) ns v w (fun W' hb => IntsAt.below hb hv) (Below.refl _ w) (fun W' hb n _ =>
    (findsb1_any l n lv bf bl W' (h.later hb)).mono (fun e w' ⟨e1, e2⟩ => ⟨e1, below2 hb e2⟩))
set_option maxHeartbeats 400000 in
theorem findsb2_any (l : List FindD) (n : Int) (lv : Value) (bf bl : Nat) (w : World) (h : FindsAt w bf bl lv l) :
    Calls Tryz.prog 72 #[.int .i64 n, .pointer (some ⟨bf, 0, none⟩)] w (Ret (.bool (findsB l n true)) w) := by
  have HC := hide (finds_any l n true lv bl w h.hl h.li)
  have c0 := h.fn
  generalize findsB l n true = b at HC ⊢
  clear h
  go_enter Tryz.func72, Tryz.ntmps72
  go_wp2_with fail
  refine HC.out.mono ?_
  rintro e w2 ⟨rfl, hw2⟩
  go_wp2_with fail
  go_ret
  exact ⟨rfl, hw2⟩
/-- .. over a list of numbers -/
theorem hasb2_any (l : List FindD) (ns : List Int) (lv v : Value) (bf bl : Nat) (w : World) (h : FindsAt w bf bl lv l) (hv : IntsIn w.cell? v ns) :
    Calls Tryz.prog 61 #[v, .func (.func 72) #[] #[.pointer (some ⟨bf, 0, none⟩)]] w (Ret (.bool (ns.any fun n => findsB l n true)) w) :=
  has_ints (fun W' => Below w.heap.size w W') 72 #[.pointer (some ⟨bf, 0, none⟩)] (Go.Proofs.enters_of Tryz.func72 (by kernel_rfl) rfl) (fun n => findsB l n true) ns v w (fun W' hb => IntsAt.below hb hv) (Below.refl _ w) (fun W' hb n _ =>
    (findsb2_any l n lv bf bl W' (h.later hb)).mono (fun e w' ⟨e1, e2⟩ => ⟨e1, below2 hb e2⟩))
set_option maxHeartbeats 400000 in
theorem findsn3_any (l : List FindD) (n : Int) (lv : Value) (bf bl : Nat) (w : World) (h : FindsAt w bf bl lv l) :
    Calls Tryz.prog 74 #[.int .i64 n, .pointer (some ⟨bf, 0, none⟩)] w (Ret (.bool (!findsB l n true)) w) := by
  have HC := hide (finds_any l n true lv bl w h.hl h.li)
  have c0 := h.fn
  generalize findsB l n true = b at HC ⊢
  clear h
  go_enter Tryz.func74, Tryz.ntmps74
  go_wp2_with fail
  refine HC.out.mono ?_
  rintro e w2 ⟨rfl, hw2⟩
  go_wp2_with fail
  go_ret
  exact ⟨rfl, hw2⟩
/-- .. over a list of numbers -/
theorem hasn3_any (l : List FindD) (ns : List Int) (lv v : Value) (bf bl : Nat) (w : World) (h : FindsAt w bf bl lv l) (hv : IntsIn w.cell? v ns) :
    Calls Tryz.prog 61 #[v, .func (.func 74) #[] #[.pointer (some ⟨bf, 0, none⟩)]] w (Ret (.bool (ns.any fun n => !findsB l n true)) w) :=
  has_ints (fun W' => Below w.heap.size w W') 74 #[.pointer (some ⟨bf, 0, none⟩)] (Go.Proofs.enters_of Tryz.func74 (by kernel_rfl) rfl) (fun n => !findsB l n true) ns v w (fun W' hb => IntsAt.below hb hv) (Below.refl _ w) (fun W' hb n _ =>
    (findsn3_any l n lv bf bl W' (h.later hb)).mono (fun e w' ⟨e1, e2⟩ => ⟨e1, below2 hb e2⟩))
set_option maxHeartbeats 400000 in
theorem findsn4_any (l : List FindD) (n : Int) (lv : Value) (bf bl : Nat) (w : World) (h : FindsAt w bf bl lv l) :
    Calls Tryz.prog 75 #[.int .i64 n, .pointer (some ⟨bf, 0, none⟩)] w (Ret (.bool (!findsB l n false)) w) := by
  have HC := hide (finds_any l n false lv bl w h.hl h.li)
  have c0 := h.fn
  generalize findsB l n false = b at HC ⊢
  clear h
  go_enter Tryz.func75, Tryz.ntmps75
  go_wp2_with fail
  refine HC.out.mono ?_
  rintro e w2 ⟨rfl, hw2⟩
  go_wp2_with fail
  go_ret
  exact ⟨rfl, hw2⟩
/-- .. over a list of numbers -/
theorem hasn4_any (l : List FindD) (ns : List Int) (lv v : Value) (bf bl : Nat) (w : World) (h : FindsAt w bf bl lv l) (hv : IntsIn w.cell? v ns) :
    Calls Tryz.prog 61 #[v, .func (.func 75) #[] #[.pointer (some ⟨bf, 0, none⟩)]] w (Ret (.bool (ns.any fun n => !findsB l n false)) w) :=
  has_ints (fun W' => Below w.heap.size w W') 75 #[.pointer (some ⟨bf, 0, none⟩)] (Go.Proofs.enters_of Tryz.func75 (by kernel_rfl) rfl) (fun n => !findsB l n false) ns v w (fun W' hb => IntsAt.below hb hv) (Below.refl _ w) (fun W' hb n _ =>
    (findsn4_any l n lv bf bl W' (h.later hb)).mono (fun e w' ⟨e1, e2⟩ => ⟨e1, below2 hb e2⟩))
set_option maxHeartbeats 1000000 in
theorem barred_any (c : CodeD) (i : Nat) (hi : i < c.clauses.length) (hc20 : c.clauses.length ≤ 1000) (l : List FindD) (cv lv : Value) (J bj bf bl : Nat) (w : World) (hcl : ClausesIn w.cell? cv c.clauses) (hJ : w.cell? ⟨J, 0, none⟩ = some cv) (hj : w.cell? ⟨bj, 0, none⟩ = some (.pointer (some ⟨J, 0, none⟩))) (h : FindsAt w bf bl lv l) :
    Calls Tryz.prog 70 #[.int .i64 i, .pointer (some ⟨bj, 0, none⟩), .pointer (some ⟨bf, 0, none⟩)] w (Ret (.bool (barredB c l i)) w) := by
  obtain ⟨ca, cn, rfl, hc1, hc2, hcc⟩ := hcl
  obtain ⟨cb, co, nv, bv, rfl, hcg⟩ := hcc i hi
  clear hcc
  have HF : Hid (barredB c l i = (((c.clauses.getD i clause0).needs.any fun n => findsB l n false) || (c.clauses.getD i clause0).bars.any fun n => findsB l n true)) := hide rfl
  generalize c.clauses.getD i clause0 = z at hcg HF
  have H1 := hide (fun W (hb : Below w.heap.size w W) => hasb1_any l z.needs lv nv bf bl W (h.later hb) (hcg.2.2.2.2.2.2.1.keeps (keeps_of_below hb)))
  have H2 := hide (fun W (hb : Below w.heap.size w W) => hasb2_any l z.bars lv bv bf bl W (h.later hb) (hcg.2.2.2.2.2.2.2.keeps (keeps_of_below hb)))
  obtain ⟨na, nc, rfl, -⟩ := id hcg.2.2.2.2.2.2.1
  obtain ⟨ba, bc, rfl, -⟩ := id hcg.2.2.2.2.2.2.2
  have a0 := hcg.1
  have a1 := hcg.2.1
  have a2 := hcg.2.2.1
  have a3 := hcg.2.2.2.1
  have a4 := hcg.2.2.2.2.1
  have a5 := hcg.2.2.2.2.2.1
  generalize (z.needs.any fun n => findsB l n false) = b1 at H1 HF
  generalize (z.bars.any fun n => findsB l n true) = b2 at H2 HF
  have hlc : (c.clauses.length : Int) ≤ 9223372036854775807 := by omega
  clear h hcg
  go_enter Tryz.func70, Tryz.ntmps70
  go_wp2_with fail
  generalize hX1 : World.alloc w _ = X1
  have zX1 : X1.heap.size = w.heap.size + 1 := by rw [← hX1]; simp
  have bX1 : Below w.heap.size w X1 := by rw [← hX1]; exact bal w _
  have bX : Blk X1 (w.heap.size) (clauseC z (.slice na z.needs.length nc) (.slice ba z.bars.length bc)) 38 := by rw [← hX1]; exact Blk.newA w _ (by first | rfl | simp)
  have Xb := bX1
  have Xz := zX1
  clear hX1 zX1 bX1
  refine (H1.out _ Xb).mono ?_
  rintro e w2 ⟨rfl, hw2⟩
  have X2 := below2 Xb hw2
  have x4 := (bX.later hw2).cell 4 rfl
  cases b1
  · go_wp2_with fail
    refine (H2.out _ X2).mono ?_
    rintro e w3 ⟨rfl, hw3⟩
    go_wp2_with fail
    go_ret
    exact ⟨ret_bool (by rw [HF.out]; rfl), below2 X2 hw3⟩
  · go_wp2_with fail
    go_ret
    exact ⟨ret_bool (by rw [HF.out]; rfl), X2⟩
set_option maxHeartbeats 1000000 in
theorem factsays_any (c : CodeD) (i : Nat) (hi : i < c.facts.length) (hc20 : c.facts.length ≤ 1000) (x : FindD) (fv : Value) (J bj bx : Nat) (w : World) (hfa : FactsIn w.cell? fv c.facts) (hJ : w.cell? ⟨J, 2, none⟩ = some fv) (hj : w.cell? ⟨bj, 0, none⟩ = some (.pointer (some ⟨J, 0, none⟩))) (hx : w.cell? ⟨bx, 0, none⟩ = some (.int .i64 x.says)) :
    Calls Tryz.prog 76 #[.int .i64 i, .pointer (some ⟨bj, 0, none⟩), .pointer (some ⟨bx, 0, none⟩)] w (Ret (.bool (saysB c x.says i)) w) := by
  obtain ⟨fa, fn, rfl, hf1, hf2, hcf⟩ := hfa
  obtain ⟨fb, fo, rfl, hcg⟩ := hcf i hi
  have f1 : w.cell? ⟨fb, fo + i * 6 + 1, none⟩ = some (.int .i64 (c.facts.getD i fact0).says) := hcg 1 _ rfl
  have HF : Hid (saysB c x.says i = ((c.facts.getD i fact0).says == x.says)) := hide (by unfold saysB; rw [Bool.eq_iff_iff]; simp)
  generalize (c.facts.getD i fact0).says = s at f1 HF
  have hlc : (c.facts.length : Int) ≤ 9223372036854775807 := by omega
  clear hcf hcg
  go_enter Tryz.func76, Tryz.ntmps76
  go_wp2_with fail
  go_region
  go_wp2_with fail
  go_ret
  exact ⟨ret_bool (by rw [HF.out]), (Below.refl _ w).drew⟩
set_option maxHeartbeats 1000000 in
theorem unbarred_any (c : CodeD) (i : Nat) (hi : i < c.clauses.length) (hc20 : c.clauses.length ≤ 1000) (x : FindD) (l : List FindD) (cv lv : Value) (J bj bx bf bl bb : Nat) (w : World) (hcl : ClausesIn w.cell? cv c.clauses) (hJ : w.cell? ⟨J, 0, none⟩ = some cv) (hj : w.cell? ⟨bj, 0, none⟩ = some (.pointer (some ⟨J, 0, none⟩))) (hx : w.cell? ⟨bx, 0, none⟩ = some (.int .i64 x.says)) (h : FindsAt w bf bl lv l)
    (hb : w.cell? ⟨bb, 0, none⟩ = some (.func (.func 70) #[] #[.pointer (some ⟨bj, 0, none⟩), .pointer (some ⟨bf, 0, none⟩)])) :
    Calls Tryz.prog 77 #[.int .i64 i, .pointer (some ⟨bj, 0, none⟩), .pointer (some ⟨bx, 0, none⟩), .pointer (some ⟨bb, 0, none⟩)] w (Ret (.bool (decide ((c.clauses.getD i clause0).gives = x.says) && !barredB c l i)) w) := by
  have HB := hide (fun W (hW : Below w.heap.size w W) => barred_any c i hi hc20 l cv lv J bj bf bl W (hcl.keeps (keeps_of_below hW)) (keep hW hJ) (keep hW hj) (h.later hW))
  obtain ⟨ca, cn, rfl, hc1, hc2, hcc⟩ := hcl
  obtain ⟨cb, co, nv, bv, rfl, hcg⟩ := hcc i hi
  have g5 := bwc hcg.2.2.2.2.2.1
  generalize (c.clauses.getD i clause0).gives = gv at g5 ⊢
  generalize barredB c l i = b at HB ⊢
  have j0 := bwc hJ
  have jj := bwc hj
  have x0 := bwc hx
  have b0 := bwc hb
  have hlc : (c.clauses.length : Int) ≤ 9223372036854775807 := by omega
  clear hcc hcg hJ hj hx hb h
  by_cases e : gv = x.says
  · have e' : (gv == x.says) = true := by simp [e]
    have HE := hide (decide_eq_true e)
    clear e
    go_enter Tryz.func77, Tryz.ntmps77
    go_wp2_with fail
    refine wp_region_bw (by kernel_rfl) (by kernel_rfl) ?_
    repeat (go_big_quiet_step ((go_at_call 70; exact quiet (HB.out _ (Bw.h _)))))
    refine wpQuiet_nil ?_
    rintro _ ⟨i, rfl⟩
    go_wp2_with fail
    go_ret
    exact ⟨ret_bool (by rw [HE.out]; rfl), i.h⟩
  · have e' : (gv == x.says) = false := by simp [e]
    have HE := hide (decide_eq_false e)
    clear e
    go_enter Tryz.func77, Tryz.ntmps77
    go_wp2_with fail
    refine wp_region_bw (by kernel_rfl) (by kernel_rfl) ?_
    repeat (go_big_quiet_step (fail))
    refine wpQuiet_nil ?_
    rintro _ ⟨i, rfl⟩
    go_wp2_with fail
    go_ret
    exact ⟨ret_bool (by rw [HE.out]; rfl), i.h⟩
theorem intsN_any (q : Nat → Bool) (l : List Nat) : ((intsN l).any fun y => q y.toNat) = l.any q := by
  unfold intsN
  rw [List.any_map]
  congr 1
theorem intsN_mem {l : List Nat} {y : Int} (h : y ∈ intsN l) : y.toNat ∈ l ∧ ((y.toNat : Nat) : Int) = y := by
  unfold intsN at h
  obtain ⟨i, hi, rfl⟩ := List.mem_map.1 h
  exact ⟨hi, by simp⟩
/-- some fact that applies says the number -/
theorem has_says (c : CodeD) (F : List Nat) (hFl : ∀ i ∈ F, i < c.facts.length) (hc : c.facts.length ≤ 1000) (x : FindD) (fv v : Value) (J bj bx : Nat) (w : World) (hfa : FactsIn w.cell? fv c.facts) (hJ : w.cell? ⟨J, 2, none⟩ = some fv) (hj : w.cell? ⟨bj, 0, none⟩ = some (.pointer (some ⟨J, 0, none⟩))) (hx : w.cell? ⟨bx, 0, none⟩ = some (.int .i64 x.says)) (hv : IntsIn w.cell? v (intsN F)) :
    Calls Tryz.prog 61 #[v, .func (.func 76) #[] #[.pointer (some ⟨bj, 0, none⟩), .pointer (some ⟨bx, 0, none⟩)]] w (Ret (.bool (F.any (saysB c x.says))) w) := by
  rw [← intsN_any]
  exact has_ints (fun W' => Below w.heap.size w W') 76 #[.pointer (some ⟨bj, 0, none⟩), .pointer (some ⟨bx, 0, none⟩)] (Go.Proofs.enters_of Tryz.func76 (by kernel_rfl) rfl) (fun y => saysB c x.says y.toNat) (intsN F) v w (fun W' hb => IntsAt.below hb hv) (Below.refl _ w) (fun W' hb y hy => by
    obtain ⟨h1, h2⟩ := intsN_mem hy
    have := factsays_any c y.toNat (hFl _ h1) hc x fv J bj bx W' (hfa.below hb) (keep hb hJ) (keep hb hj) (keep hb hx)
    rw [h2] at this
    exact this.mono (fun e w' ⟨e1, e2⟩ => ⟨e1, below2 hb e2⟩))
/-- some clause that applies gives the number, and is not barred -/
theorem has_unbarred (c : CodeD) (C : List Nat) (hCl : ∀ i ∈ C, i < c.clauses.length) (hc : c.clauses.length ≤ 1000) (x : FindD) (l : List FindD) (cv lv v : Value) (J bj bx bf bl bb : Nat) (w : World) (hcl : ClausesIn w.cell? cv c.clauses) (hJ : w.cell? ⟨J, 0, none⟩ = some cv) (hj : w.cell? ⟨bj, 0, none⟩ = some (.pointer (some ⟨J, 0, none⟩))) (hx : w.cell? ⟨bx, 0, none⟩ = some (.int .i64 x.says)) (h : FindsAt w bf bl lv l)
    (hb : w.cell? ⟨bb, 0, none⟩ = some (.func (.func 70) #[] #[.pointer (some ⟨bj, 0, none⟩), .pointer (some ⟨bf, 0, none⟩)])) (hv : IntsIn w.cell? v (intsN C)) :
    Calls Tryz.prog 61 #[v, .func (.func 77) #[] #[.pointer (some ⟨bj, 0, none⟩), .pointer (some ⟨bx, 0, none⟩), .pointer (some ⟨bb, 0, none⟩)]] w (Ret (.bool (C.any fun i => decide ((c.clauses.getD i clause0).gives = x.says) && !barredB c l i)) w) := by
  rw [← intsN_any]
  exact has_ints (fun W' => Below w.heap.size w W') 77 #[.pointer (some ⟨bj, 0, none⟩), .pointer (some ⟨bx, 0, none⟩), .pointer (some ⟨bb, 0, none⟩)] (Go.Proofs.enters_of Tryz.func77 (by kernel_rfl) rfl) (fun y => decide ((c.clauses.getD y.toNat clause0).gives = x.says) && !barredB c l y.toNat) (intsN C) v w (fun W' hb => IntsAt.below hb hv) (Below.refl _ w) (fun W' hw y hy => by
    obtain ⟨h1, h2⟩ := intsN_mem hy
    have := unbarred_any c y.toNat (hCl _ h1) hc x l cv lv J bj bx bf bl bb W' (hcl.keeps (keeps_of_below hw)) (keep hw hJ) (keep hw hj) (keep hw hx) (h.later hw) (keep hw hb)
    rw [h2] at this
    exact this.mono (fun e w' ⟨e1, e2⟩ => ⟨e1, below2 hw e2⟩))
set_option maxHeartbeats 1000000 in
theorem index_int (l : List Int) (n : Int) (v : Value) (w : World) (hv : IntsIn w.cell? v l) :
    Calls Tryz.prog 96 #[v, .int .i64 n] w (fun e w' => e = .returned (.int .i64 (idxF (fun y => decide (n = y)) l)) ∧ w' = w) := by
  obtain ⟨a, c, rfl, hlc, hcm, hc⟩ := hv
  have hlI : (l.length : Int) ≤ 9223372036854775807 := by omega
  have HC := hide hc
  clear hc
  go_enter Tryz.func96, Tryz.ntmps96
  go_wp2
  go_loopw [8] (fun i wr => ∃ (k : Nat), k ≤ l.length ∧ i = .int .i64 k ∧ Hid ((l.take k).any (fun y => decide (n = y)) = false) ∧ wr = w) (fun i _ => l.length - (intOf i).toNat)
  case atStart => exact ⟨0, by omega, rfl, rfl, rfl⟩
  case round =>
    obtain ⟨k, hk, rfl, HA, hwr⟩ := hrel
    obtain rfl := hwr.symm
    by_cases hlt : k < l.length
    · have HK1 := hide hlt
      obtain ⟨b, o, rfl, hck⟩ := HC.out k hlt
      have HT := hide (any_take_succ (d := 0) (p := fun y => decide (n = y)) hlt HA.out)
      have HN := hide (idxF_found (d := 0) (fun y => decide (n = y)) l k hlt HA.out)
      generalize l.getD k 0 = x at hck HT HN
      by_cases e : n = x
      · have e' : (n == x) = true := by simp [e]
        have HN' := hide (HN.out (decide_eq_true e))
        clear e HT HN
        go_wp2_with fail
        go_ret
        exact ⟨ret_int HN'.out.symm, rfl⟩
      · have e' : (n == x) = false := by simp [e]
        have HT' := hide (HT.out (decide_eq_false e))
        clear e HT HN
        go_wp2_with fail
        go_roundw
        case rel => exact ⟨k + 1, by have := HK1.out; omega, by go_num, HT', trivial⟩
        case measure => have := HK1.out; simp [intOf]; omega
    · go_wp2
      go_ret
      exact ⟨ret_int (idxF_none _ l (any_take_end (by omega) HA.out)).symm, rfl⟩
theorem contains_int (l : List Int) (n : Int) (v : Value) (w : World) (hv : IntsIn w.cell? v l) :
    Calls Tryz.prog 73 #[v, .int .i64 n] w (fun e w' => e = .returned (.bool (l.any fun y => decide (n = y))) ∧ w' = w) := by
  have HF := hide (idxF_any (fun y => decide (n = y)) l)
  have HH := hide (index_int l n v w hv)
  clear hv
  go_enter Tryz.func73, Tryz.ntmps73
  go_wp2_with fail
  refine HH.out.mono ?_
  rintro e w' ⟨rfl, hw⟩; obtain rfl := hw.symm
  go_wp2_with fail
  go_ret
  exact ⟨ret_bool HF.out, rfl⟩
theorem any_only (n : Int) (F : List Nat) (p : Nat → Bool) : (F.any fun (i : Nat) => decide (n = (i : Int)) && p i) = (((intsN F).any fun y => decide (n = y)) && p n.toNat) := by
  rw [Bool.eq_iff_iff, Bool.and_eq_true, List.any_eq_true, List.any_eq_true]
  constructor
  · rintro ⟨i, hi, h⟩
    rw [Bool.and_eq_true, decide_eq_true_eq] at h
    obtain ⟨rfl, h2⟩ := h
    exact ⟨⟨(i : Int), List.mem_map.2 ⟨i, hi, rfl⟩, by simp⟩, by simpa using h2⟩
  · rintro ⟨⟨y, hy, h⟩, h2⟩
    obtain ⟨h3, h4⟩ := intsN_mem hy
    rw [decide_eq_true_eq] at h
    subst h
    exact ⟨n.toNat, h3, by rw [h4]; simp [h2]⟩
/-- a finding of a list is right: the three cases -/
theorem right_fact {c : CodeD} {F C : List Nat} {x : FindD} {l : List FindD} (h1 : x.holds = true) (h2 : x.clause = -1) : rightB c F C x l = (((intsN F).any fun y => decide (x.fact = y)) && saysB c x.says x.fact.toNat) := by
  unfold rightB
  rw [h1, decide_eq_true h2, if_pos (show (true && true) = true from rfl), any_only]
theorem right_clause {c : CodeD} {F C : List Nat} {x : FindD} {l : List FindD} (h1 : x.holds = true) (h2 : x.clause ≠ -1) : rightB c F C x l = (decide (x.fact = -1) && (((intsN C).any fun y => decide (x.clause = y)) && (decide ((c.clauses.getD x.clause.toNat clause0).gives = x.says) && ((!(c.clauses.getD x.clause.toNat clause0).needs.any fun n => !findsB l n true) && !(c.clauses.getD x.clause.toNat clause0).bars.any fun n => !findsB l n false)))) := by
  unfold rightB
  rw [h1, decide_eq_false h2, if_neg (by simp), if_pos rfl, ← any_only x.clause C fun i => (decide ((c.clauses.getD i clause0).gives = x.says) && ((!(c.clauses.getD i clause0).needs.any fun n => !findsB l n true) && !(c.clauses.getD i clause0).bars.any fun n => !findsB l n false))]
  congr 1
  congr 1
  funext i
  rw [any_not, any_not, Bool.not_not, Bool.not_not, Bool.and_assoc, Bool.and_assoc]
theorem right_none {c : CodeD} {F C : List Nat} {x : FindD} {l : List FindD} (h1 : x.holds = false) : rightB c F C x l = (decide (x.fact = -1) && decide (x.clause = -1) && !F.any (saysB c x.says) && !C.any fun i => decide ((c.clauses.getD i clause0).gives = x.says) && !barredB c l i) := by
  unfold rightB
  rw [h1, if_neg (by simp), if_neg (by simp)]
  congr 1
  rw [← all_not]
  congr 1
  funext i
  simp [Bool.not_and]
end Go.Proofs.YtdjldidfnddpmaaGreatDoor
