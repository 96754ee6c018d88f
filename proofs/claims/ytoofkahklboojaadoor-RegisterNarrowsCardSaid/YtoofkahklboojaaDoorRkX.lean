/- Register: the chapter's examples, in plain words. No condition. -/
import Derived.Test.YtoofkahklboojaaDoorRkL
namespace Go.Proofs.YtoofkahklboojaaDoor
open Go.RowKit

def insI (x : Int) : List Int → List Int
  | [] => [x]
  | y :: t => if x < y then x :: y :: t else if x = y then y :: t else y :: insI x t
def ordI : List Int → List Int
  | [] => []
  | x :: t => insI x (ordI t)
theorem insI_mem (x z : Int) : ∀ l : List Int, z ∈ insI x l ↔ z = x ∨ z ∈ l
  | [] => by simp [insI]
  | y :: t => by
    rw [insI]
    split
    · simp
    · split
      · rename_i h; subst h; simp
      · rw [List.mem_cons, insI_mem x z t, List.mem_cons]
        constructor
        · rintro (h | h | h) <;> simp [h]
        · rintro (h | h | h) <;> simp [h]
theorem insI_lt (x : Int) : ∀ l : List Int, l.Pairwise (· < ·) → (insI x l).Pairwise (· < ·)
  | [], _ => by simp [insI]
  | y :: t, h => by
    rw [insI]
    have h1 := List.pairwise_cons.1 h
    split
    · rename_i hxy
      rw [List.pairwise_cons]
      refine ⟨fun z hz => ?_, h⟩
      rcases List.mem_cons.1 hz with rfl | hz
      · exact hxy
      · have := h1.1 z hz; omega
    · split
      · exact h
      · rw [List.pairwise_cons]
        refine ⟨fun z hz => ?_, insI_lt x t h1.2⟩
        rcases (insI_mem x z t).1 hz with rfl | hz
        · omega
        · exact h1.1 z hz
theorem ordI_mem (z : Int) : ∀ l : List Int, z ∈ ordI l ↔ z ∈ l
  | [] => by simp [ordI]
  | x :: t => by rw [ordI, insI_mem, ordI_mem z t, List.mem_cons]
theorem ordI_lt : ∀ l : List Int, (ordI l).Pairwise (· < ·)
  | [] => List.Pairwise.nil
  | x :: t => insI_lt x _ (ordI_lt t)
theorem asc_eq : ∀ {a b : List Int}, a.Pairwise (· < ·) → b.Pairwise (· < ·) → (∀ x, x ∈ a ↔ x ∈ b) → a = b
  | [], [], _, _, _ => rfl
  | [], y :: t, _, _, h => by have := (h y).2 (by simp); cases this
  | x :: s, [], _, _, h => by have := (h x).1 (by simp); cases this
  | x :: s, y :: t, ha, hb, h => by
    have a1 := List.pairwise_cons.1 ha
    have b1 := List.pairwise_cons.1 hb
    have hxy : x = y := by
      have h1 := (h x).1 (by simp)
      have h2 := (h y).2 (by simp)
      rcases List.mem_cons.1 h1 with e | e
      · exact e
      · rcases List.mem_cons.1 h2 with e2 | e2
        · exact e2.symm
        · have := b1.1 x e; have := a1.1 y e2; omega
    subst hxy
    congr 1
    refine asc_eq a1.2 b1.2 fun z => ?_
    constructor
    · intro hz
      rcases List.mem_cons.1 ((h z).1 (by simp [hz])) with e | e
      · have := a1.1 z hz; omega
      · exact e
    · intro hz
      rcases List.mem_cons.1 ((h z).2 (by simp [hz])) with e | e
      · have := b1.1 z hz; omega
      · exact e
theorem osF_ord : osF = ordI := funext fun l => asc_eq (osF_lt l) (ordI_lt l) fun x => (osF_mem l x).trans (ordI_mem x l).symm
def exA : List DotD := [⟨1, 0, 0, 1⟩, ⟨2, 10, 0, 1⟩, ⟨30, 5, 5, 1⟩, ⟨31, 9, 5, 1⟩]
def exB : List DotD := [⟨1, 100, 50, 0⟩, ⟨2, 100, 61, 0⟩, ⟨40, 95, 55, 1⟩, ⟨41, 97, 60, 1⟩, ⟨42, 80, 50, 1⟩]
def exC : List DotD := [⟨1, 100, 50, 0⟩, ⟨2, 100, 70, 0⟩, ⟨40, 95, 55, 1⟩, ⟨41, 97, 60, 1⟩, ⟨42, 80, 50, 1⟩]
def verO (a _ : List DotD) (q : DotD) (s n : Option MotD) : VerD :=
  ⟨if s.isSome then (if n.isSome then 2 else 3) else 1, resM s, if s.isSome then partD a q (resM s) else -1, resM n⟩
def srchO (a b : List DotD) (q : DotD) (c : Bool) : Option MotD := searchD ordI (marksD a b) (findsD a) q c
theorem ver_ord (a b : List DotD) (q : DotD) : verD a b q = verO a b q (srchO a b q true) (srchO a b q false) := by
  unfold verD verO srchO srch; rw [osF_ord]
def motEq (m : MotD) (a b c : Int) : Prop := m.turn = a ∧ m.dx = b ∧ m.dy = c
instance (m : MotD) (a b c : Int) : Decidable (motEq m a b c) := by unfold motEq; exact inferInstance
theorem mot_of {m : MotD} {a b c : Int} (h : motEq m a b c) : m = ⟨a, b, c⟩ := by
  obtain ⟨h1, h2, h3⟩ := h; cases m; simp only [] at h1 h2 h3; rw [h1, h2, h3]
def verEq (v : VerD) (k : Int) (a : Int × Int × Int) (p : Int) (b : Int × Int × Int) : Prop := v.kind = k ∧ motEq v.w a.1 a.2.1 a.2.2 ∧ v.par = p ∧ motEq v.wo b.1 b.2.1 b.2.2
instance (v : VerD) (k : Int) (a : Int × Int × Int) (p : Int) (b : Int × Int × Int) : Decidable (verEq v k a p b) := by unfold verEq; exact inferInstance
theorem ver_of {v : VerD} {k p a1 a2 a3 b1 b2 b3 : Int} (h : verEq v k (a1, a2, a3) p (b1, b2, b3)) : v = ⟨k, ⟨a1, a2, a3⟩, p, ⟨b1, b2, b3⟩⟩ := by
  obtain ⟨h1, h2, h3, h4⟩ := h
  have e2 := mot_of h2
  have e4 := mot_of h4
  cases v; simp only [] at h1 e2 h3 e4; rw [h1, e2, h3, e4]
theorem ex_q : judE exA exB 40 = 0 ∧ judE exA exB 41 = 0 ∧ judE exA exB 42 = 0 ∧ judE exA exB 2 = 110 := by decide +kernel
def q40 : DotD := ⟨40, 95, 55, 1⟩
def q41 : DotD := ⟨41, 97, 60, 1⟩
def q42 : DotD := ⟨42, 80, 50, 1⟩
theorem ex_v40 : verEq (verO exA exB q40 (srchO exA exB q40 true) (srchO exA exB q40 false)) 3 (1, 99, 50) 30 (0, 0, 0) := by decide +kernel
theorem ex_v41 : verEq (verO exA exB q41 (srchO exA exB q41 true) (srchO exA exB q41 false)) 2 (1, 100, 50) 31 (1, 99, 50) := by decide +kernel
theorem ex_v42 : verEq (verO exA exB q42 (srchO exA exB q42 true) (srchO exA exB q42 false)) 1 (0, 0, 0) (-1) (1, 99, 50) := by decide +kernel
theorem jud_of {z : Int} {q : DotD} {v : VerD} (h : judgeD exA exB z = some q) (hv : verD exA exB q = v) : judV exA exB z = v := by
  unfold judV; rw [h]; exact hv
theorem ex_j40 : judV exA exB 40 = ⟨3, ⟨1, 99, 50⟩, 30, ⟨0, 0, 0⟩⟩ := jud_of (q := q40) rfl ((ver_ord _ _ _).trans (ver_of ex_v40))
theorem ex_j41 : judV exA exB 41 = ⟨2, ⟨1, 100, 50⟩, 31, ⟨1, 99, 50⟩⟩ := jud_of (q := q41) rfl ((ver_ord _ _ _).trans (ver_of ex_v41))
theorem ex_j42 : judV exA exB 42 = ⟨1, ⟨0, 0, 0⟩, -1, ⟨1, 99, 50⟩⟩ := jud_of (q := q42) rfl ((ver_ord _ _ _).trans (ver_of ex_v42))
theorem ex_j2 : judV exA exB 2 = ver0 := by unfold judV; rfl
theorem ex_fits : fitsR exA exB = [(1, ⟨99, 101, 50, 51⟩)] := rfl
theorem ex_err : errR exA exB = 0 := by decide +kernel
theorem ex_app : applyX ⟨1, 100, 50⟩ 5 5 = 95 ∧ applyY ⟨1, 100, 50⟩ 5 5 = 55 := by decide +kernel
theorem ex_bl : blamed exA exB = false ∧ blamed exA exC = true := by decide +kernel
theorem ex_blr : blameR exA exC = [(1, 2), (1, 2), (1, 2), (1, 2)] := by decide +kernel
theorem ex_inv : invD ⟨1, 100, 50⟩ = ⟨3, -50, 100⟩ := by rfl
theorem ex_fit : fittingD exA exB ⟨1, 99, 50⟩ = true ∧ fittingD exA exB ⟨1, 98, 50⟩ = false ∧ validD exA = true ∧ validD [⟨100, 0, 0, 0⟩] = false := by decide +kernel
end Go.Proofs.YtoofkahklboojaaDoor
