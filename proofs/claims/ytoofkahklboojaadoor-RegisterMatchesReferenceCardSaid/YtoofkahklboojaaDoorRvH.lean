/- Register: the chapter's examples, in plain words. No condition. Register: walks of examples, Same and Pairs. Conditions: how the arguments lie in memory. Register: the walk of the laws' sane: it returns true. Condition: how the global tables lie in memory. -/
import Derived.Test.YtoofkahklboojaaDoorRkL
import Derived.Laws.StructEq
import Derived.Test.YtoofkahklboojaaDoorRkM
namespace Go.Proofs.YtoofkahklboojaaDoor
open Go.RowKit

def insI (x : Int) : List Int → List Int
  | [] => [x]
  | y :: t => if x < y then x :: y :: t else if x = y then y :: t else y :: insI x t
def ordI : List Int → List Int
  | [] => []
  | x :: t => insI x (ordI t)
theorem insI_mem (x z : Int) : ∀ l : List Int, z ∈ insI x l ↔ z = x ∨ z ∈ l
  | [] => by simp [insI]
  | y :: t => by
    rw [insI]
    split
    · simp
    · split
      · rename_i h; subst h; simp
      · rw [List.mem_cons, insI_mem x z t, List.mem_cons]
        constructor
        · rintro (h | h | h) <;> simp [h]
        · rintro (h | h | h) <;> simp [h]
theorem insI_lt (x : Int) : ∀ l : List Int, l.Pairwise (· < ·) → (insI x l).Pairwise (· < ·)
  | [], _ => by simp [insI]
  | y :: t, h => by
    rw [insI]
    have h1 := List.pairwise_cons.1 h
    split
    · rename_i hxy
      rw [List.pairwise_cons]
      refine ⟨fun z hz => ?_, h⟩
      rcases List.mem_cons.1 hz with rfl | hz
      · exact hxy
      · have := h1.1 z hz; omega
    · split
      · exact h
      · rw [List.pairwise_cons]
        refine ⟨fun z hz => ?_, insI_lt x t h1.2⟩
        rcases (insI_mem x z t).1 hz with rfl | hz
        · omega
        · exact h1.1 z hz
theorem ordI_mem (z : Int) : ∀ l : List Int, z ∈ ordI l ↔ z ∈ l
  | [] => by simp [ordI]
  | x :: t => by rw [ordI, insI_mem, ordI_mem z t, List.mem_cons]
theorem ordI_lt : ∀ l : List Int, (ordI l).Pairwise (· < ·)
  | [] => List.Pairwise.nil
  | x :: t => insI_lt x _ (ordI_lt t)
theorem asc_eq : ∀ {a b : List Int}, a.Pairwise (· < ·) → b.Pairwise (· < ·) → (∀ x, x ∈ a ↔ x ∈ b) → a = b
  | [], [], _, _, _ => rfl
  | [], y :: t, _, _, h => by have := (h y).2 (by simp); cases this
  | x :: s, [], _, _, h => by have := (h x).1 (by simp); cases this
  | x :: s, y :: t, ha, hb, h => by
    have a1 := List.pairwise_cons.1 ha
    have b1 := List.pairwise_cons.1 hb
    have hxy : x = y := by
      have h1 := (h x).1 (by simp)
      have h2 := (h y).2 (by simp)
      rcases List.mem_cons.1 h1 with e | e
      · exact e
      · rcases List.mem_cons.1 h2 with e2 | e2
        · exact e2.symm
        · have := b1.1 x e; have := a1.1 y e2; omega
    subst hxy
    congr 1
    refine asc_eq a1.2 b1.2 fun z => ?_
    constructor
    · intro hz
      rcases List.mem_cons.1 ((h z).1 (by simp [hz])) with e | e
      · have := a1.1 z hz; omega
      · exact e
    · intro hz
      rcases List.mem_cons.1 ((h z).2 (by simp [hz])) with e | e
      · have := b1.1 z hz; omega
      · exact e
theorem osF_ord : osF = ordI := funext fun l => asc_eq (osF_lt l) (ordI_lt l) fun x => (osF_mem l x).trans (ordI_mem x l).symm
def exA : List DotD := [⟨1, 0, 0, 1⟩, ⟨2, 10, 0, 1⟩, ⟨30, 5, 5, 1⟩, ⟨31, 9, 5, 1⟩]
def exB : List DotD := [⟨1, 100, 50, 0⟩, ⟨2, 100, 61, 0⟩, ⟨40, 95, 55, 1⟩, ⟨41, 97, 60, 1⟩, ⟨42, 80, 50, 1⟩]
def exC : List DotD := [⟨1, 100, 50, 0⟩, ⟨2, 100, 70, 0⟩, ⟨40, 95, 55, 1⟩, ⟨41, 97, 60, 1⟩, ⟨42, 80, 50, 1⟩]
def verO (a _ : List DotD) (q : DotD) (s n : Option MotD) : VerD :=
  ⟨if s.isSome then (if n.isSome then 2 else 3) else 1, resM s, if s.isSome then partD a q (resM s) else -1, resM n⟩
def srchO (a b : List DotD) (q : DotD) (c : Bool) : Option MotD := searchD ordI (marksD a b) (findsD a) q c
theorem ver_ord (a b : List DotD) (q : DotD) : verD a b q = verO a b q (srchO a b q true) (srchO a b q false) := by
  unfold verD verO srchO srch; rw [osF_ord]
def motEq (m : MotD) (a b c : Int) : Prop := m.turn = a ∧ m.dx = b ∧ m.dy = c
instance (m : MotD) (a b c : Int) : Decidable (motEq m a b c) := by unfold motEq; exact inferInstance
theorem mot_of {m : MotD} {a b c : Int} (h : motEq m a b c) : m = ⟨a, b, c⟩ := by
  obtain ⟨h1, h2, h3⟩ := h; cases m; simp only [] at h1 h2 h3; rw [h1, h2, h3]
def verEq (v : VerD) (k : Int) (a : Int × Int × Int) (p : Int) (b : Int × Int × Int) : Prop := v.kind = k ∧ motEq v.w a.1 a.2.1 a.2.2 ∧ v.par = p ∧ motEq v.wo b.1 b.2.1 b.2.2
instance (v : VerD) (k : Int) (a : Int × Int × Int) (p : Int) (b : Int × Int × Int) : Decidable (verEq v k a p b) := by unfold verEq; exact inferInstance
theorem ver_of {v : VerD} {k p a1 a2 a3 b1 b2 b3 : Int} (h : verEq v k (a1, a2, a3) p (b1, b2, b3)) : v = ⟨k, ⟨a1, a2, a3⟩, p, ⟨b1, b2, b3⟩⟩ := by
  obtain ⟨h1, h2, h3, h4⟩ := h
  have e2 := mot_of h2
  have e4 := mot_of h4
  cases v; simp only [] at h1 e2 h3 e4; rw [h1, e2, h3, e4]
theorem ex_q : judE exA exB 40 = 0 ∧ judE exA exB 41 = 0 ∧ judE exA exB 42 = 0 ∧ judE exA exB 2 = 110 := by decide +kernel
def q40 : DotD := ⟨40, 95, 55, 1⟩
def q41 : DotD := ⟨41, 97, 60, 1⟩
def q42 : DotD := ⟨42, 80, 50, 1⟩
theorem ex_v40 : verEq (verO exA exB q40 (srchO exA exB q40 true) (srchO exA exB q40 false)) 3 (1, 99, 50) 30 (0, 0, 0) := by decide +kernel
theorem ex_v41 : verEq (verO exA exB q41 (srchO exA exB q41 true) (srchO exA exB q41 false)) 2 (1, 100, 50) 31 (1, 99, 50) := by decide +kernel
theorem ex_v42 : verEq (verO exA exB q42 (srchO exA exB q42 true) (srchO exA exB q42 false)) 1 (0, 0, 0) (-1) (1, 99, 50) := by decide +kernel
theorem jud_of {z : Int} {q : DotD} {v : VerD} (h : judgeD exA exB z = some q) (hv : verD exA exB q = v) : judV exA exB z = v := by
  unfold judV; rw [h]; exact hv
theorem ex_j40 : judV exA exB 40 = ⟨3, ⟨1, 99, 50⟩, 30, ⟨0, 0, 0⟩⟩ := jud_of (q := q40) rfl ((ver_ord _ _ _).trans (ver_of ex_v40))
theorem ex_j41 : judV exA exB 41 = ⟨2, ⟨1, 100, 50⟩, 31, ⟨1, 99, 50⟩⟩ := jud_of (q := q41) rfl ((ver_ord _ _ _).trans (ver_of ex_v41))
theorem ex_j42 : judV exA exB 42 = ⟨1, ⟨0, 0, 0⟩, -1, ⟨1, 99, 50⟩⟩ := jud_of (q := q42) rfl ((ver_ord _ _ _).trans (ver_of ex_v42))
theorem ex_j2 : judV exA exB 2 = ver0 := by unfold judV; rfl
theorem ex_fits : fitsR exA exB = [(1, ⟨99, 101, 50, 51⟩)] := rfl
theorem ex_err : errR exA exB = 0 := by decide +kernel
theorem ex_app : applyX ⟨1, 100, 50⟩ 5 5 = 95 ∧ applyY ⟨1, 100, 50⟩ 5 5 = 55 := by decide +kernel
theorem ex_bl : blamed exA exB = false ∧ blamed exA exC = true := by decide +kernel
theorem ex_blr : blameR exA exC = [(1, 2), (1, 2), (1, 2), (1, 2)] := by decide +kernel
theorem ex_inv : invD ⟨1, 100, 50⟩ = ⟨3, -50, 100⟩ := by rfl
theorem ex_fit : fittingD exA exB ⟨1, 99, 50⟩ = true ∧ fittingD exA exB ⟨1, 98, 50⟩ = false ∧ validD exA = true ∧ validD [⟨100, 0, 0, 0⟩] = false := by decide +kernel
end Go.Proofs.YtoofkahklboojaaDoor
namespace Go.Proofs.YtoofkahklboojaaDoor
open Go.RowKit

set_option maxRecDepth 20000 in
set_option maxHeartbeats 1000000 in
theorem examples_any (w : World) : Calls Tryd.prog 34 #[] w (fun e w' => ∃ n m, e = .returned (.tuple #[.slice (some ⟨n, 0, none⟩) 4 4, .slice (some ⟨m, 0, none⟩) 5 5]) ∧ Blk w' n ((exA.map dotC).flatten) 53 ∧ Blk w' m ((exB.map dotC).flatten) 53 ∧ w.heap.size ≤ n ∧ w.heap.size ≤ m ∧ n ≠ m ∧ Below w.heap.size w w') := by
  go_enter Tryd.func34, Tryd.ntmps34
  go_wp2_with fail
  generalize hX1 : World.alloc w _ = X1
  have zX1 : X1.heap.size = w.heap.size + 1 := by rw [← hX1]; simp
  have bX1 : Below w.heap.size w X1 := by rw [← hX1]; exact bal w _
  have bA_1 : Blk X1 (w.heap.size) [iV 1, iV 0, iV 0, iV 1, iV 2, iV 10, iV 0, iV 1, iV 30, iV 5, iV 5, iV 1, iV 31, iV 9, iV 5, iV 1] 53 := by rw [← hX1]; exact Blk.newA w _ (by first | rfl | simp)
  generalize hX2 : World.alloc X1 _ = X2
  have zX2 : X2.heap.size = w.heap.size + 1 + 1 := by rw [← hX2]; simp [zX1]
  have bX2 : Below X1.heap.size X1 X2 := by rw [← hX2]; exact bal X1 _
  have bB : Blk X2 (w.heap.size + 1) [iV 1, iV 100, iV 50, iV 0, iV 2, iV 100, iV 61, iV 0, iV 40, iV 95, iV 55, iV 1, iV 41, iV 97, iV 60, iV 1, iV 42, iV 80, iV 50, iV 1] 53 := by rw [← hX2, ← zX1]; exact Blk.newA X1 _ (by first | rfl | simp)
  have bA := bA_1.later bX2
  have Xb := below2 (bX1) bX2
  have Xz := zX2
  clear hX1 zX1 bX1 hX2 zX2 bX2 bA_1
  go_ret2
  exact ⟨w.heap.size, w.heap.size + 1, rfl, bA, bB, by omega, by omega, by omega, Xb⟩
theorem dots_of_blk {w : World} {n : Nat} {l : List DotD} (h : Blk w n ((l.map dotC).flatten) 53) (c : Nat) (hc : l.length ≤ c) (hc2 : c ≤ 9223372036854775807) : DotsAt w (.slice (some ⟨n, 0, none⟩) l.length c) l := by
  refine ⟨some ⟨n, 0, none⟩, c, rfl, hc, hc2, fun i hi => ⟨n, 0, rfl, fun j u hu => ?_⟩⟩
  have hj : j < 4 := (List.getElem?_eq_some_iff.1 hu).1
  rw [Nat.zero_add]
  refine h.cell _ ?_
  rw [flat_get (k := 4) (fun r hr => by obtain ⟨x, -, rfl⟩ := List.mem_map.1 hr; rfl) i j hj, List.getD_eq_getElem?_getD, List.getElem?_map, List.getElem?_eq_getElem hi]
  rw [List.getD_eq_getElem?_getD, List.getElem?_eq_getElem hi] at hu
  exact hu
theorem eq_ids (a b c d : Int) (w : World) : (Op.equalIn 10000 58 (.agg #[iV a, iV b]) (.agg #[iV c, iV d])).run Tryd.prog w = .ok (a == c && b == d) w := by
  have u3 := Tryd.underlying3
  have a3 := Tryd.isAgg3
  have z3 := Tryd.sizeOf3
  rw [show (10000 : Nat) = 9999 + 1 from rfl, Op.equalIn]
  simp only [Sem.run_bind, run_underlying Tryd.underlying58, Result.andThen_ok]
  simp only [Std.Legacy.Range.forIn_eq_forIn_range', Std.Legacy.Range.size, Nat.sub_zero, Nat.add_sub_cancel, Nat.div_one, List.range'_succ, List.range'_zero, List.forIn_cons, List.forIn_nil]
  go_simp
  by_cases h1 : a = c <;> by_cases h2 : b = d <;> simp [h1, h2]
set_option maxRecDepth 20000 in
set_option maxHeartbeats 1000000 in
theorem same_any (l : List (Nat × BoxD)) (v u : Value) (w : World) (hv : RecIn fitC fit0 5 w.cell? v l) (hu : RecIn fitC fit0 5 w.cell? u l) : Calls Tryd.prog 20 #[v, u] w (Ret (.bool true) w) := by
  obtain ⟨a, c, rfl, hl1, hl2, hc⟩ := hv
  obtain ⟨a', c', rfl, -, -, hc'⟩ := hu
  have HC := hide hc
  have HC' := hide hc'
  have hm : (l.length : Int) ≤ 9223372036854775807 := by omega
  have hle : ((l.length : Int) != (l.length : Int)) = false := by simp
  clear hc hc'
  go_enter Tryd.func20, Tryd.ntmps20
  go_wp2_with fail
  go_loopw [5] (fun i wr => ∃ k : Nat, k ≤ l.length ∧ i = .int .i64 k ∧ Below w.heap.size w wr) (fun i _ => l.length - (intOf i).toNat)
  case atStart => exact ⟨0, by omega, rfl, Below.refl _ _⟩
  case round =>
    obtain ⟨k, hk, rfl, hbr⟩ := hrel
    by_cases hlt : k < l.length
    · obtain ⟨b1, o1, e1, h1⟩ := HC.out k hlt
      obtain ⟨b2, o2, e2, h2⟩ := HC'.out k hlt
      subst e1 e2
      generalize l.getD k fit0 = x at h1 h2
      have hkl : decide (k < l.length) = true := by simpa using hlt
      obtain ⟨xk, xl, xh, yl, yh⟩ := x
      have p0 : ∀ i : Bw wr.heap.size wr, i.W.cell? ⟨b1, o1 + k * 5, none⟩ = some (iV xk) := bwc (keep hbr (h1 0 _ rfl))
      have p1 : ∀ i : Bw wr.heap.size wr, i.W.cell? ⟨b1, o1 + k * 5 + 1, none⟩ = some (iV xl) := bwc (keep hbr (h1 1 _ rfl))
      have p2 : ∀ i : Bw wr.heap.size wr, i.W.cell? ⟨b1, o1 + k * 5 + 2, none⟩ = some (iV xh) := bwc (keep hbr (h1 2 _ rfl))
      have p3 : ∀ i : Bw wr.heap.size wr, i.W.cell? ⟨b1, o1 + k * 5 + 3, none⟩ = some (iV yl) := bwc (keep hbr (h1 3 _ rfl))
      have p4 : ∀ i : Bw wr.heap.size wr, i.W.cell? ⟨b1, o1 + k * 5 + 4, none⟩ = some (iV yh) := bwc (keep hbr (h1 4 _ rfl))
      have q0 : ∀ i : Bw wr.heap.size wr, i.W.cell? ⟨b2, o2 + k * 5, none⟩ = some (iV xk) := bwc (keep hbr (h2 0 _ rfl))
      have q1 : ∀ i : Bw wr.heap.size wr, i.W.cell? ⟨b2, o2 + k * 5 + 1, none⟩ = some (iV xl) := bwc (keep hbr (h2 1 _ rfl))
      have q2 : ∀ i : Bw wr.heap.size wr, i.W.cell? ⟨b2, o2 + k * 5 + 2, none⟩ = some (iV xh) := bwc (keep hbr (h2 2 _ rfl))
      have q3 : ∀ i : Bw wr.heap.size wr, i.W.cell? ⟨b2, o2 + k * 5 + 3, none⟩ = some (iV yl) := bwc (keep hbr (h2 3 _ rfl))
      have q4 : ∀ i : Bw wr.heap.size wr, i.W.cell? ⟨b2, o2 + k * 5 + 4, none⟩ = some (iV yh) := bwc (keep hbr (h2 4 _ rfl))
      clear h1 h2
      go_wp2_with fail
      refine wp_region_bw (by kernel_rfl) (by kernel_rfl) ?_
      repeat (go_big_quiet_step (fail))
      refine wpQuiet_nil ?_
      rintro _ ⟨i, rfl⟩
      have hbi := below2 hbr i.h
      go_wp2_with fail
      go_roundw
      case rel => exact ⟨k + 1, by omega, by go_num, hbi⟩
      case measure => simp [intOf]; omega
    · obtain rfl : k = l.length := by omega
      go_wp2_with fail
      go_ret
      exact ⟨rfl, hbr⟩
set_option maxRecDepth 20000 in
set_option maxHeartbeats 1000000 in
theorem pairs_any (l : List (Int × Int)) (v u : Value) (w : World) (hv : RecIn idsC (0, 0) 2 w.cell? v l) (hu : RecIn idsC (0, 0) 2 w.cell? u l) : Calls Tryd.prog 21 #[v, u] w (Ret (.bool true) w) := by
  obtain ⟨a, c, rfl, hl1, hl2, hc⟩ := hv
  obtain ⟨a', c', rfl, -, -, hc'⟩ := hu
  have HC := hide hc
  have HC' := hide hc'
  have hm : (l.length : Int) ≤ 9223372036854775807 := by omega
  have hle : ((l.length : Int) != (l.length : Int)) = false := by simp
  clear hc hc'
  go_enter Tryd.func21, Tryd.ntmps21
  go_wp2_with fail
  go_loopw [5] (fun i wr => ∃ k : Nat, k ≤ l.length ∧ i = .int .i64 k ∧ Below w.heap.size w wr) (fun i _ => l.length - (intOf i).toNat)
  case atStart => exact ⟨0, by omega, rfl, Below.refl _ _⟩
  case round =>
    obtain ⟨k, hk, rfl, hbr⟩ := hrel
    by_cases hlt : k < l.length
    · obtain ⟨b1, o1, e1, h1⟩ := HC.out k hlt
      obtain ⟨b2, o2, e2, h2⟩ := HC'.out k hlt
      subst e1 e2
      generalize l.getD k (0, 0) = x at h1 h2
      have hkl : decide (k < l.length) = true := by simpa using hlt
      obtain ⟨x1, x2⟩ := x
      have EQ := fun W => eq_ids x1 x2 x1 x2 W
      have EB : (x1 == x1 && x2 == x2) = true := by simp
      have p0 : ∀ i : Bw wr.heap.size wr, i.W.cell? ⟨b1, o1 + k * 2, none⟩ = some (iV x1) := bwc (keep hbr (h1 0 _ rfl))
      have p1 : ∀ i : Bw wr.heap.size wr, i.W.cell? ⟨b1, o1 + k * 2 + 1, none⟩ = some (iV x2) := bwc (keep hbr (h1 1 _ rfl))
      have q0 : ∀ i : Bw wr.heap.size wr, i.W.cell? ⟨b2, o2 + k * 2, none⟩ = some (iV x1) := bwc (keep hbr (h2 0 _ rfl))
      have q1 : ∀ i : Bw wr.heap.size wr, i.W.cell? ⟨b2, o2 + k * 2 + 1, none⟩ = some (iV x2) := bwc (keep hbr (h2 1 _ rfl))
      clear h1 h2
      go_wp2_with fail
      refine wp_region_bw (by kernel_rfl) (by kernel_rfl) ?_
      repeat (go_big_quiet_step (fail))
      refine wpQuiet_nil ?_
      rintro _ ⟨i, rfl⟩
      have hbi := below2 hbr i.h
      go_wp2_with fail
      go_roundw
      case rel => exact ⟨k + 1, by omega, by go_num, hbi⟩
      case measure => simp [intOf]; omega
    · obtain rfl : k = l.length := by omega
      go_wp2_with fail
      go_ret
      exact ⟨rfl, hbr⟩
end Go.Proofs.YtoofkahklboojaaDoor
namespace Go.Proofs.YtoofkahklboojaaDoor
open Go.RowKit

theorem bne {w : World} {b c : Nat} {vs us : List Value} {t t' : TypeId} (h : Blk w b vs t) (k : Blk w c us t') (ht : t ≠ t') : b ≠ c := fun e => by
  subst e
  have := (show w.heap[b]? = _ from h).symm.trans (show w.heap[b]? = _ from k)
  simp at this; exact ht this.2
theorem GBlk.other {w : World} {g : Nat} {vs : List Value} (h : GBlk w g vs) {c : Nat} (hc : g ≠ c) (j : Nat) (u : Value) : GBlk (w.setCell ⟨c, j, none⟩ u) g vs := by
  obtain ⟨t, m, h⟩ := h
  exact ⟨t, m, (Below.heap_setCell w ⟨c, j, none⟩ u g hc).trans h⟩
theorem rec_of_blk {α : Type} {f : α → List Value} {d : α} {k : Nat} {w : World} {n : Nat} {l : List α} {t : TypeId} (hk : ∀ x, (f x).length = k) (h : Blk w n ((l.map f).flatten) t) (c : Nat) (hc : l.length ≤ c) (hc2 : c ≤ 9223372036854775807) : RecIn f d k w.cell? (.slice (some ⟨n, 0, none⟩) l.length c) l := by
  refine ⟨some ⟨n, 0, none⟩, c, rfl, hc, hc2, fun i hi => ⟨n, 0, rfl, fun j u hu => ?_⟩⟩
  have hj : j < k := by rw [← hk (l.getD i d)]; exact (List.getElem?_eq_some_iff.1 hu).1
  rw [Nat.zero_add]
  refine h.cell _ ?_
  rw [flat_get (k := k) (fun r hr => by obtain ⟨x, -, rfl⟩ := List.mem_map.1 hr; exact hk x) i j hj, List.getD_eq_getElem?_getD, List.getElem?_map, List.getElem?_eq_getElem hi]
  rw [List.getD_eq_getElem?_getD, List.getElem?_eq_getElem hi] at hu
  exact hu
set_option maxRecDepth 100000 in
set_option maxHeartbeats 4000000 in
theorem sane_any (w : World) (hG : Glob w) : Calls Tryd.prog 11 #[] w (Ret (.bool true) w) := by
  go_enter Tryd.func11, Tryd.ntmps11
  go_wp2_with fail
  refine (examples_any w).mono ?_
  rintro e w1 ⟨n, m, rfl, bA, bB, hn, hm, hnm, hb⟩
  have hgl := hG.ev.lt
  have hgl2 := hG.tu.lt
  replace hG := hG.later hb
  have hmlt := bB.lt
  have DA : DotsAt w1 (.slice (some ⟨n, 0, none⟩) 4 4) exA := dots_of_blk (l := exA) bA 4 (by decide) (by decide)
  have DB : DotsAt w1 (.slice (some ⟨m, 0, none⟩) 5 5) exB := dots_of_blk (l := exB) bB 5 (by decide) (by decide)
  go_wp2_with fail
  refine (fits_any exA exB _ _ _ DA DB hG).mono ?_
  rw [ex_fits, ex_err]
  rintro e w2 ⟨v2, u2, rfl, ⟨hv2, rfl⟩, hb2⟩
  have FT : RecIn fitC fit0 5 (frm w1.heap.size w2) v2 [(1, ⟨99, 101, 50, 51⟩)] := hv2
  obtain ⟨fa, fc, rfl, -, -, -⟩ := id hv2
  replace DA := DA.below hb2
  replace DB := DB.below hb2
  replace bB := bB.later hb2
  replace hG := hG.later hb2
  replace hb := below2 hb hb2
  replace bA := bA.later hb2
  clear hv2
  have hm1 : m < w1.heap.size := hmlt
  go_wp2_with fail
  generalize hX1 : World.alloc w2 _ = X1
  have zX1 : X1.heap.size = w2.heap.size + 1 := by rw [← hX1]; simp
  have bX1 : Below w2.heap.size w2 X1 := by rw [← hX1]; exact bal w2 _
  have b5_1 : Blk X1 (w2.heap.size) [iV 1, iV 100, iV 50] 32 := by rw [← hX1]; exact Blk.newA w2 _ (by first | rfl | simp)
  generalize hX2 : World.alloc X1 _ = X2
  have zX2 : X2.heap.size = w2.heap.size + 1 + 1 := by rw [← hX2]; simp [zX1]
  have bX2 : Below X1.heap.size X1 X2 := by rw [← hX2]; exact bal X1 _
  have b6 : Blk X2 (w2.heap.size + 1) [iV 1, iV 99, iV 50] 32 := by rw [← hX2, ← zX1]; exact Blk.newA X1 _ (by first | rfl | simp)
  have b5 := b5_1.later bX2
  have Xb := below2 (bX1) bX2
  have Xz := zX2
  clear hX1 zX1 bX1 hX2 zX2 bX2 b5_1
  replace bA := bA.later Xb
  replace DA := DA.below Xb
  replace DB := DB.below Xb
  replace FT := FT.keeps (keeps_frm_later fun k _ h => (Xb).block k h)
  replace hG := hG.later Xb
  replace hb := below2 hb Xb
  replace bB := bB.later Xb
  have z5 : w2.heap.size < X2.heap.size := b5.lt
  generalize w2.heap.size + 1 = P6 at *
  generalize w2.heap.size = P5 at *
  clear Xz
  refine (apply_any ⟨1, 100, 50⟩ 5 5 _ hG).mono ?_
  rw [ex_app.1, ex_app.2]
  rintro e w3 ⟨rfl, hb3⟩
  replace bA := bA.later hb3
  replace DA := DA.below hb3
  replace DB := DB.below hb3
  replace FT := FT.keeps (keeps_frm_later fun k _ h => (hb3).block k h)
  replace hG := hG.later hb3
  replace hb := below2 hb hb3
  replace bB := bB.later hb3
  replace b5 := b5.later hb3
  replace b6 := b6.later hb3
  go_wp2_with fail
  refine (judge_any exA exB _ _ 40 _ DA DB (by decide) (by decide) hG).mono ?_
  rw [ex_j40, ex_q.1]
  rintro e w4 ⟨rfl, hb4⟩
  replace bA := bA.later hb4
  replace DA := DA.below hb4
  replace DB := DB.below hb4
  replace FT := FT.keeps (keeps_frm_later fun k _ h => (hb4).block k h)
  replace hG := hG.later hb4
  replace hb := below2 hb hb4
  replace bB := bB.later hb4
  replace b5 := b5.later hb4
  replace b6 := b6.later hb4
  go_wp2_with fail
  generalize hXX : World.alloc w4 _ = W4
  have hbX : Below w4.heap.size w4 W4 := by rw [← hXX]; exact bal w4 _
  have b9 : Blk W4 w4.heap.size [iV 3, iV 1, iV 99, iV 50, iV 30, iV 0, iV 0, iV 0] 55 := by rw [← hXX]; exact Blk.newA w4 _ rfl
  clear hXX
  replace bA := bA.later hbX
  replace DA := DA.below hbX
  replace DB := DB.below hbX
  replace FT := FT.keeps (keeps_frm_later fun k _ h => (hbX).block k h)
  replace hG := hG.later hbX
  replace hb := below2 hb hbX
  replace bB := bB.later hbX
  replace b5 := b5.later hbX
  replace b6 := b6.later hbX
  generalize w4.heap.size = P9 at *
  refine (judge_any exA exB _ _ 41 _ DA DB (by decide) (by decide) hG).mono ?_
  rw [ex_j41, ex_q.2.1]
  rintro e w5 ⟨rfl, hb5⟩
  replace bA := bA.later hb5
  replace DA := DA.below hb5
  replace DB := DB.below hb5
  replace FT := FT.keeps (keeps_frm_later fun k _ h => (hb5).block k h)
  replace hG := hG.later hb5
  replace hb := below2 hb hb5
  replace bB := bB.later hb5
  replace b5 := b5.later hb5
  replace b6 := b6.later hb5
  replace b9 := b9.later hb5
  go_wp2_with fail
  generalize hXX : World.alloc w5 _ = W5
  have hbX : Below w5.heap.size w5 W5 := by rw [← hXX]; exact bal w5 _
  have b11 : Blk W5 w5.heap.size [iV 2, iV 1, iV 100, iV 50, iV 31, iV 1, iV 99, iV 50] 55 := by rw [← hXX]; exact Blk.newA w5 _ rfl
  clear hXX
  replace bA := bA.later hbX
  replace DA := DA.below hbX
  replace DB := DB.below hbX
  replace FT := FT.keeps (keeps_frm_later fun k _ h => (hbX).block k h)
  replace hG := hG.later hbX
  replace hb := below2 hb hbX
  replace bB := bB.later hbX
  replace b5 := b5.later hbX
  replace b6 := b6.later hbX
  replace b9 := b9.later hbX
  generalize w5.heap.size = P11 at *
  refine (judge_any exA exB _ _ 42 _ DA DB (by decide) (by decide) hG).mono ?_
  rw [ex_j42, ex_q.2.2.1]
  rintro e w6 ⟨rfl, hb6⟩
  replace bA := bA.later hb6
  replace DA := DA.below hb6
  replace DB := DB.below hb6
  replace FT := FT.keeps (keeps_frm_later fun k _ h => (hb6).block k h)
  replace hG := hG.later hb6
  replace hb := below2 hb hb6
  replace bB := bB.later hb6
  replace b5 := b5.later hb6
  replace b6 := b6.later hb6
  replace b9 := b9.later hb6
  replace b11 := b11.later hb6
  go_wp2_with fail
  generalize hXX : World.alloc w6 _ = W6
  have hbX : Below w6.heap.size w6 W6 := by rw [← hXX]; exact bal w6 _
  have b13 : Blk W6 w6.heap.size [iV 1, iV 0, iV 0, iV 0, iV (-1), iV 1, iV 99, iV 50] 55 := by rw [← hXX]; exact Blk.newA w6 _ rfl
  clear hXX
  replace bA := bA.later hbX
  replace DA := DA.below hbX
  replace DB := DB.below hbX
  replace FT := FT.keeps (keeps_frm_later fun k _ h => (hbX).block k h)
  replace hG := hG.later hbX
  replace hb := below2 hb hbX
  replace bB := bB.later hbX
  replace b5 := b5.later hbX
  replace b6 := b6.later hbX
  replace b9 := b9.later hbX
  replace b11 := b11.later hbX
  generalize w6.heap.size = P13 at *
  refine (judge_any exA exB _ _ 2 _ DA DB (by decide) (by decide) hG).mono ?_
  rw [ex_j2, ex_q.2.2.2]
  rintro e w7 ⟨rfl, hb7⟩
  replace bA := bA.later hb7
  replace DA := DA.below hb7
  replace DB := DB.below hb7
  replace FT := FT.keeps (keeps_frm_later fun k _ h => (hb7).block k h)
  replace hG := hG.later hb7
  replace hb := below2 hb hb7
  replace bB := bB.later hb7
  replace b5 := b5.later hb7
  replace b6 := b6.later hb7
  replace b9 := b9.later hb7
  replace b11 := b11.later hb7
  replace b13 := b13.later hb7
  go_wp2_with fail
  generalize hXX : World.alloc w7 _ = W7
  have hbX : Below w7.heap.size w7 W7 := by rw [← hXX]; exact bal w7 _
  clear hXX
  replace bA := bA.later hbX
  replace DA := DA.below hbX
  replace DB := DB.below hbX
  replace FT := FT.keeps (keeps_frm_later fun k _ h => (hbX).block k h)
  replace hG := hG.later hbX
  replace hb := below2 hb hbX
  replace bB := bB.later hbX
  replace b5 := b5.later hbX
  replace b6 := b6.later hbX
  replace b9 := b9.later hbX
  replace b11 := b11.later hbX
  replace b13 := b13.later hbX
  refine (blame_any exA exB _ _ _ DA DB hG).mono ?_
  rw [ex_bl.1]
  rintro e w8 ⟨v8, u8, rfl, ⟨hv8, rfl⟩, hb8⟩
  replace bA := bA.later hb8
  replace DA := DA.below hb8
  replace DB := DB.below hb8
  replace FT := FT.keeps (keeps_frm_later fun k _ h => (hb8).block k h)
  replace hG := hG.later hb8
  replace hb := below2 hb hb8
  replace bB := bB.later hb8
  replace b5 := b5.later hb8
  replace b6 := b6.later hb8
  replace b9 := b9.later hb8
  replace b11 := b11.later hb8
  replace b13 := b13.later hb8
  have f6 := bB.frozen 6
  have x6 := bB.cell 6 rfl
  go_wp2_with fail
  have hS : Blk (World.setCell w8 ⟨m, 6, none⟩ (iV 70)) m ((exC.map dotC).flatten) 53 := bB.set 6 (iV 70)
  have bA9 := bA.other hnm 6 (iV 70)
  have q5 := b5.other (bne b5 bB (by decide)) 6 (iV 70)
  have q6 := b6.other (bne b6 bB (by decide)) 6 (iV 70)
  have q9 := b9.other (bne b9 bB (by decide)) 6 (iV 70)
  have q11 := b11.other (bne b11 bB (by decide)) 6 (iV 70)
  have q13 := b13.other (bne b13 bB (by decide)) 6 (iV 70)
  have FT9 : RecIn fitC fit0 5 (frm w1.heap.size (World.setCell w8 ⟨m, 6, none⟩ (iV 70))) (.slice fa 1 fc) [(1, ⟨99, 101, 50, 51⟩)] := FT.keeps (keeps_frm_later fun k hk _ => Below.heap_setCell _ _ _ _ (by show k ≠ m; omega))
  have hG9 : Glob (World.setCell w8 ⟨m, 6, none⟩ (iV 70)) := ⟨hG.ev.other (by omega) 6 (iV 70), hG.tu.other (by omega) 6 (iV 70)⟩
  have hb9 := hb.setCell (p := ⟨m, 6, none⟩) hm (iV 70)
  generalize World.setCell w8 _ _ = w9 at hS bA9 q5 q6 q9 q11 q13 FT9 hG9 hb9 ⊢
  clear f6 x6 bA bB b5 b6 b9 b11 b13 FT hG hb DA DB
  have DA : DotsAt w9 (.slice (some ⟨n, 0, none⟩) 4 4) exA := dots_of_blk (l := exA) bA9 4 (by decide) (by decide)
  have DB : DotsAt w9 (.slice (some ⟨m, 0, none⟩) 5 5) exC := dots_of_blk (l := exC) hS 5 (by decide) (by decide)
  refine (blame_any exA exC _ _ _ DA DB hG9).mono ?_
  rw [ex_bl.2, ex_blr]
  rintro e w10 ⟨v10, u10, rfl, ⟨hv10, rfl⟩, hb10⟩
  have PT : RecIn idsC (0, 0) 2 w10.cell? v10 [(1, 2), (1, 2), (1, 2), (1, 2)] := hv10.at
  obtain ⟨pa, pc, rfl, -, -, -⟩ := id hv10
  have DA10 := DA.below hb10
  have FT10 : RecIn fitC fit0 5 w10.cell? (.slice fa 1 fc) [(1, ⟨99, 101, 50, 51⟩)] := (FT9.keeps (keeps_frm_later fun k _ h => hb10.block k h)).at
  have c5 := q5.later hb10
  have c6 := q6.later hb10
  have c9 := q9.later hb10
  have c11 := q11.later hb10
  have c13 := q13.later hb10
  have hG10 := hG9.later hb10
  have hb10w := below2 hb9 hb10
  clear hv10 q5 q6 q9 q11 q13 FT9 hG9 hb9 hS bA9 DA DB
  have k5_0 := (c5).cell 0 rfl
  have k5_1 := (c5).cell 1 rfl
  have k5_2 := (c5).cell 2 rfl
  have k6_0 := (c6).cell 0 rfl
  have k6_1 := (c6).cell 1 rfl
  have k6_2 := (c6).cell 2 rfl
  have k9_0 := (c9).cell 0 rfl
  have k9_1 := (c9).cell 1 rfl
  have k9_2 := (c9).cell 2 rfl
  have k9_3 := (c9).cell 3 rfl
  have k9_4 := (c9).cell 4 rfl
  have k9_5 := (c9).cell 5 rfl
  have k9_6 := (c9).cell 6 rfl
  have k9_7 := (c9).cell 7 rfl
  have k11_0 := (c11).cell 0 rfl
  have k11_1 := (c11).cell 1 rfl
  have k11_2 := (c11).cell 2 rfl
  have k11_3 := (c11).cell 3 rfl
  have k11_4 := (c11).cell 4 rfl
  have k11_5 := (c11).cell 5 rfl
  have k11_6 := (c11).cell 6 rfl
  have k11_7 := (c11).cell 7 rfl
  have k13_0 := (c13).cell 0 rfl
  have k13_1 := (c13).cell 1 rfl
  have k13_2 := (c13).cell 2 rfl
  have k13_3 := (c13).cell 3 rfl
  have k13_4 := (c13).cell 4 rfl
  have k13_5 := (c13).cell 5 rfl
  have k13_6 := (c13).cell 6 rfl
  have k13_7 := (c13).cell 7 rfl
  go_wp2_with fail
  refine (invert_any ⟨1, 100, 50⟩ _ hG10).mono ?_
  rw [ex_inv]
  rintro e w11 ⟨rfl, hb11⟩
  have DA11 := DA10.below hb11
  have FT11 := FT10.below hb11
  have PT11 := PT.below hb11
  have c6' := c6.later hb11
  have hG11 := hG10.later hb11
  have hbw11 := below2 hb10w hb11
  clear DA10 FT10 PT c5 c6 c9 c11 c13 hG10 hb10w k5_0 k5_1 k5_2 k6_0 k6_1 k6_2 k9_0 k9_1 k9_2 k9_3 k9_4 k9_5 k9_6 k9_7 k11_0 k11_1 k11_2 k11_3 k11_4 k11_5 k11_6 k11_7 k13_0 k13_1 k13_2 k13_3 k13_4 k13_5 k13_6 k13_7
  go_wp2_with fail
  generalize hXX : World.alloc w11 _ = W12
  have hb12 : Below w11.heap.size w11 W12 := by rw [← hXX]; exact bal w11 _
  have bL : Blk W12 w11.heap.size (([((1 : Nat), (⟨99, 101, 50, 51⟩ : BoxD))].map fitC).flatten) 65 := by rw [← hXX]; exact Blk.newA w11 _ rfl
  clear hXX
  refine (same_any [(1, ⟨99, 101, 50, 51⟩)] _ _ _ (FT11.below hb12) (rec_of_blk (f := fitC) (d := fit0) (k := 5) (l := [((1 : Nat), (⟨99, 101, 50, 51⟩ : BoxD))]) (fun _ => rfl) bL 1 (by decide) (by decide))).mono ?_
  rintro e w13 ⟨rfl, hb13⟩
  have hb113 := below2 hb12 hb13
  have DA13 := DA11.below hb113
  have PT13 := PT11.below hb113
  have c613 := c6'.later hb113
  have hG13 := hG11.later hb113
  have hbw13 := below2 hbw11 hb113
  clear DA11 FT11 PT11 c6' hG11 hbw11 bL
  go_wp2_with fail
  refine (examples_any w13).mono ?_
  rintro e w14 ⟨n', m', rfl, -, bB', -, -, -, hb14⟩
  have DA14 := DA13.below hb14
  have DB14 : DotsAt w14 (.slice (some ⟨m', 0, none⟩) 5 5) exB := dots_of_blk (l := exB) bB' 5 (by decide) (by decide)
  have PT14 := PT13.below hb14
  have c614 := c613.later hb14
  have hG14 := hG13.later hb14
  have hbw14 := below2 hbw13 hb14
  clear DA13 PT13 c613 hG13 hbw13 bB'
  go_wp2_with fail
  generalize hXX : World.alloc w14 _ = W15
  have hb15 : Below w14.heap.size w14 W15 := by rw [← hXX]; exact bal w14 _
  have bL : Blk W15 w14.heap.size (([((1 : Int), (2 : Int)), (1, 2), (1, 2), (1, 2)].map idsC).flatten) 58 := by rw [← hXX]; exact Blk.newA w14 _ rfl
  clear hXX
  refine (pairs_any [(1, 2), (1, 2), (1, 2), (1, 2)] _ _ _ (PT14.below hb15) (rec_of_blk (f := idsC) (d := ((0 : Int), (0 : Int))) (k := 2) (l := [((1 : Int), (2 : Int)), (1, 2), (1, 2), (1, 2)]) (fun _ => rfl) bL 4 (by decide) (by decide))).mono ?_
  rintro e w16 ⟨rfl, hb16⟩
  have hb116 := below2 hb15 hb16
  have DA16 := DA14.below hb116
  have DB16 := DB14.below hb116
  have c616 := c614.later hb116
  have hG16 := hG14.later hb116
  have hbw16 := below2 hbw14 hb116
  clear DA14 DB14 PT14 c614 hG14 hbw14 bL
  have k6_0 := (c616).cell 0 rfl
  have k6_1 := (c616).cell 1 rfl
  have k6_2 := (c616).cell 2 rfl
  go_wp2_with fail
  refine (fitting_any exA exB _ _ ⟨1, 99, 50⟩ _ DA16 DB16 hG16).mono ?_
  rw [ex_fit.1]
  rintro e w17 ⟨rfl, hb17⟩
  go_wp2_with fail
  refine (fitting_any exA exB _ _ ⟨1, 98, 50⟩ _ (DA16.below hb17) (DB16.below hb17) (hG16.later hb17)).mono ?_
  rw [ex_fit.2.1]
  rintro e w18 ⟨rfl, hb18⟩
  go_wp2_with fail
  refine (rvalid_any exA _ _ (DA16.below (below2 hb17 hb18))).mono ?_
  rw [ex_fit.2.2.1]
  rintro e w19 ⟨rfl, hb19⟩
  go_wp2_with fail
  generalize hXX : World.alloc w19 _ = W20
  have hb20 : Below w19.heap.size w19 W20 := by rw [← hXX]; exact bal w19 _
  have bL : Blk W20 w19.heap.size (([(⟨100, 0, 0, 0⟩ : DotD)].map dotC).flatten) 53 := by rw [← hXX]; exact Blk.newA w19 _ rfl
  clear hXX
  refine (rvalid_any [⟨100, 0, 0, 0⟩] _ _ (dots_of_blk (l := [⟨100, 0, 0, 0⟩]) bL 1 (by decide) (by decide))).mono ?_
  rw [ex_fit.2.2.2]
  rintro e w21 ⟨rfl, hb21⟩
  go_wp2_with fail
  go_ret
  exact ⟨rfl, below2 hbw16 (below2 hb17 (below2 hb18 (below2 hb19 (below2 hb20 hb21))))⟩
end Go.Proofs.YtoofkahklboojaaDoor
