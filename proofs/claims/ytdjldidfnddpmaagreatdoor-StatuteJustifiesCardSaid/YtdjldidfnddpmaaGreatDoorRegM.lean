/- A region that draws its order, by an invariant: whatever has been carried out so far, each operation keeps it. No condition. -/
import Derived.Test.YtdjldidfnddpmaaGreatDoorRegZ
namespace Go.Proofs.YtdjldidfnddpmaaGreatDoor
open Go.RowKit

/-- an act with values put in places -/
def puts (a : Act) : List (Option Nat) → List Value → Act
  | d :: ds, v :: vs => puts (a.put d v) ds vs
  | _, _ => a
def AllAt (p : Nat → Oper → Prop) : Nat → List Oper → Prop
  | _, [] => True
  | k, o :: l => p k o ∧ AllAt p (k + 1) l
theorem AllAt.at {p : Nat → Oper → Prop} : ∀ {l : List Oper} {k : Nat}, AllAt p k l → ∀ i o, l[i]? = some o → p (k + i) o
  | [], _, _, i, o, h => by simp at h
  | x :: l, k, H, 0, o, h => by simp at h; subst h; exact H.1
  | x :: l, k, H, i + 1, o, h => by
    have := H.2.at i o (by simpa using h)
    rwa [show k + 1 + i = k + (i + 1) by omega] at this
def Deps (o : Oper) (L : Nat → Bool) : Prop := ∀ e ∈ o.after, Region.binds .any e = true → L e.on = true
theorem Deps.on {o : Oper} {L : Nat → Bool} (h : Deps o L) (j : Nat) (hj : (o.after.any fun e => e.on == j && Region.binds .any e) = true) : L j = true := by
  rw [Array.any_eq_true] at hj
  obtain ⟨k, hk, h1⟩ := hj
  simp only [Bool.and_eq_true, beq_iff_eq] at h1
  have := h _ (Array.getElem_mem hk) h1.2
  rwa [h1.1] at this
def forwardB (ops : Array Oper) : Bool := (List.range ops.size).all fun i => ((ops[i]?).map (·.after.all fun e => !Region.binds .any e || decide (e.on < i))).getD true
def unlisted (listed : Array Bool) (n : Nat) : Nat := ((List.range n).filter fun i => !listed.getD i true).length
theorem filter_lt {α : Type} {p q : α → Bool} : ∀ {l : List α} {x : α}, x ∈ l → q x = true → p x = false → (∀ y, p y = true → q y = true) → (l.filter p).length < (l.filter q).length
  | y :: l, x, hm, h1, h2, h3 => by
    have hle : ∀ l : List α, (l.filter p).length ≤ (l.filter q).length := by
      intro l
      induction l with
      | nil => simp
      | cons z l ih =>
        simp only [List.filter_cons]
        cases hp : p z
        · cases hq : q z <;> simp <;> omega
        · rw [h3 z hp]; simp; omega
    rcases List.mem_cons.1 hm with rfl | h
    · simp only [List.filter_cons, h1, h2]
      have := hle l
      simp; omega
    · have ih := filter_lt h h1 h2 h3
      simp only [List.filter_cons]
      cases hp : p y
      · cases hq : q y <;> simp <;> omega
      · rw [h3 y hp]; simp; omega
theorem setD (listed : Array Bool) (i j : Nat) (hi : i < listed.size) : (listed.setIfInBounds i true).getD j false = (j == i || listed.getD j false) := by
  simp only [Array.getD_eq_getD_getElem?, Array.getElem?_setIfInBounds]
  by_cases h : i = j
  · subst h; simp [hi]
  · rw [if_neg h]
    have : (j == i) = false := by simp; exact fun e => h e.symm
    rw [this]; rfl
theorem len2 {α : Type} {vs : List α} (h : vs.length = 2) : ∃ x0 x1, vs = [x0, x1] := by
  match vs, h with
  | [x0, x1], _ => exact ⟨_, _, rfl⟩
theorem len3 {α : Type} {vs : List α} (h : vs.length = 3) : ∃ x0 x1 x2, vs = [x0, x1, x2] := by
  match vs, h with
  | [x0, x1, x2], _ => exact ⟨_, _, _, rfl⟩
theorem len4 {α : Type} {vs : List α} (h : vs.length = 4) : ∃ x0 x1 x2 x3, vs = [x0, x1, x2, x3] := by
  match vs, h with
  | [x0, x1, x2, x3], _ => exact ⟨_, _, _, _, rfl⟩
theorem len5 {α : Type} {vs : List α} (h : vs.length = 5) : ∃ x0 x1 x2 x3 x4, vs = [x0, x1, x2, x3, x4] := by
  match vs, h with
  | [x0, x1, x2, x3, x4], _ => exact ⟨_, _, _, _, _, rfl⟩
theorem len6 {α : Type} {vs : List α} (h : vs.length = 6) : ∃ x0 x1 x2 x3 x4 x5, vs = [x0, x1, x2, x3, x4, x5] := by
  match vs, h with
  | [x0, x1, x2, x3, x4, x5], _ => exact ⟨_, _, _, _, _, _, rfl⟩
theorem len7 {α : Type} {vs : List α} (h : vs.length = 7) : ∃ x0 x1 x2 x3 x4 x5 x6, vs = [x0, x1, x2, x3, x4, x5, x6] := by
  match vs, h with
  | [x0, x1, x2, x3, x4, x5, x6], _ => exact ⟨_, _, _, _, _, _, _, rfl⟩
theorem len8 {α : Type} {vs : List α} (h : vs.length = 8) : ∃ x0 x1 x2 x3 x4 x5 x6 x7, vs = [x0, x1, x2, x3, x4, x5, x6, x7] := by
  match vs, h with
  | [x0, x1, x2, x3, x4, x5, x6, x7], _ => exact ⟨_, _, _, _, _, _, _, _, rfl⟩
theorem len9 {α : Type} {vs : List α} (h : vs.length = 9) : ∃ x0 x1 x2 x3 x4 x5 x6 x7 x8, vs = [x0, x1, x2, x3, x4, x5, x6, x7, x8] := by
  match vs, h with
  | [x0, x1, x2, x3, x4, x5, x6, x7, x8], _ => exact ⟨_, _, _, _, _, _, _, _, _, rfl⟩
theorem len10 {α : Type} {vs : List α} (h : vs.length = 10) : ∃ x0 x1 x2 x3 x4 x5 x6 x7 x8 x9, vs = [x0, x1, x2, x3, x4, x5, x6, x7, x8, x9] := by
  match vs, h with
  | [x0, x1, x2, x3, x4, x5, x6, x7, x8, x9], _ => exact ⟨_, _, _, _, _, _, _, _, _, _, rfl⟩
theorem len11 {α : Type} {vs : List α} (h : vs.length = 11) : ∃ x0 x1 x2 x3 x4 x5 x6 x7 x8 x9 x10, vs = [x0, x1, x2, x3, x4, x5, x6, x7, x8, x9, x10] := by
  match vs, h with
  | [x0, x1, x2, x3, x4, x5, x6, x7, x8, x9, x10], _ => exact ⟨_, _, _, _, _, _, _, _, _, _, _, rfl⟩
theorem len12 {α : Type} {vs : List α} (h : vs.length = 12) : ∃ x0 x1 x2 x3 x4 x5 x6 x7 x8 x9 x10 x11, vs = [x0, x1, x2, x3, x4, x5, x6, x7, x8, x9, x10, x11] := by
  match vs, h with
  | [x0, x1, x2, x3, x4, x5, x6, x7, x8, x9, x10, x11], _ => exact ⟨_, _, _, _, _, _, _, _, _, _, _, _, rfl⟩
theorem len13 {α : Type} {vs : List α} (h : vs.length = 13) : ∃ x0 x1 x2 x3 x4 x5 x6 x7 x8 x9 x10 x11 x12, vs = [x0, x1, x2, x3, x4, x5, x6, x7, x8, x9, x10, x11, x12] := by
  match vs, h with
  | [x0, x1, x2, x3, x4, x5, x6, x7, x8, x9, x10, x11, x12], _ => exact ⟨_, _, _, _, _, _, _, _, _, _, _, _, _, rfl⟩
theorem len14 {α : Type} {vs : List α} (h : vs.length = 14) : ∃ x0 x1 x2 x3 x4 x5 x6 x7 x8 x9 x10 x11 x12 x13, vs = [x0, x1, x2, x3, x4, x5, x6, x7, x8, x9, x10, x11, x12, x13] := by
  match vs, h with
  | [x0, x1, x2, x3, x4, x5, x6, x7, x8, x9, x10, x11, x12, x13], _ => exact ⟨_, _, _, _, _, _, _, _, _, _, _, _, _, _, rfl⟩
theorem len15 {α : Type} {vs : List α} (h : vs.length = 15) : ∃ x0 x1 x2 x3 x4 x5 x6 x7 x8 x9 x10 x11 x12 x13 x14, vs = [x0, x1, x2, x3, x4, x5, x6, x7, x8, x9, x10, x11, x12, x13, x14] := by
  match vs, h with
  | [x0, x1, x2, x3, x4, x5, x6, x7, x8, x9, x10, x11, x12, x13, x14], _ => exact ⟨_, _, _, _, _, _, _, _, _, _, _, _, _, _, _, rfl⟩
theorem len16 {α : Type} {vs : List α} (h : vs.length = 16) : ∃ x0 x1 x2 x3 x4 x5 x6 x7 x8 x9 x10 x11 x12 x13 x14 x15, vs = [x0, x1, x2, x3, x4, x5, x6, x7, x8, x9, x10, x11, x12, x13, x14, x15] := by
  match vs, h with
  | [x0, x1, x2, x3, x4, x5, x6, x7, x8, x9, x10, x11, x12, x13, x14, x15], _ => exact ⟨_, _, _, _, _, _, _, _, _, _, _, _, _, _, _, _, rfl⟩
theorem len17 {α : Type} {vs : List α} (h : vs.length = 17) : ∃ x0 x1 x2 x3 x4 x5 x6 x7 x8 x9 x10 x11 x12 x13 x14 x15 x16, vs = [x0, x1, x2, x3, x4, x5, x6, x7, x8, x9, x10, x11, x12, x13, x14, x15, x16] := by
  match vs, h with
  | [x0, x1, x2, x3, x4, x5, x6, x7, x8, x9, x10, x11, x12, x13, x14, x15, x16], _ => exact ⟨_, _, _, _, _, _, _, _, _, _, _, _, _, _, _, _, _, rfl⟩
theorem len18 {α : Type} {vs : List α} (h : vs.length = 18) : ∃ x0 x1 x2 x3 x4 x5 x6 x7 x8 x9 x10 x11 x12 x13 x14 x15 x16 x17, vs = [x0, x1, x2, x3, x4, x5, x6, x7, x8, x9, x10, x11, x12, x13, x14, x15, x16, x17] := by
  match vs, h with
  | [x0, x1, x2, x3, x4, x5, x6, x7, x8, x9, x10, x11, x12, x13, x14, x15, x16, x17], _ => exact ⟨_, _, _, _, _, _, _, _, _, _, _, _, _, _, _, _, _, _, rfl⟩
theorem len19 {α : Type} {vs : List α} (h : vs.length = 19) : ∃ x0 x1 x2 x3 x4 x5 x6 x7 x8 x9 x10 x11 x12 x13 x14 x15 x16 x17 x18, vs = [x0, x1, x2, x3, x4, x5, x6, x7, x8, x9, x10, x11, x12, x13, x14, x15, x16, x17, x18] := by
  match vs, h with
  | [x0, x1, x2, x3, x4, x5, x6, x7, x8, x9, x10, x11, x12, x13, x14, x15, x16, x17, x18], _ => exact ⟨_, _, _, _, _, _, _, _, _, _, _, _, _, _, _, _, _, _, _, rfl⟩
theorem len20 {α : Type} {vs : List α} (h : vs.length = 20) : ∃ x0 x1 x2 x3 x4 x5 x6 x7 x8 x9 x10 x11 x12 x13 x14 x15 x16 x17 x18 x19, vs = [x0, x1, x2, x3, x4, x5, x6, x7, x8, x9, x10, x11, x12, x13, x14, x15, x16, x17, x18, x19] := by
  match vs, h with
  | [x0, x1, x2, x3, x4, x5, x6, x7, x8, x9, x10, x11, x12, x13, x14, x15, x16, x17, x18, x19], _ => exact ⟨_, _, _, _, _, _, _, _, _, _, _, _, _, _, _, _, _, _, _, _, rfl⟩
theorem len21 {α : Type} {vs : List α} (h : vs.length = 21) : ∃ x0 x1 x2 x3 x4 x5 x6 x7 x8 x9 x10 x11 x12 x13 x14 x15 x16 x17 x18 x19 x20, vs = [x0, x1, x2, x3, x4, x5, x6, x7, x8, x9, x10, x11, x12, x13, x14, x15, x16, x17, x18, x19, x20] := by
  match vs, h with
  | [x0, x1, x2, x3, x4, x5, x6, x7, x8, x9, x10, x11, x12, x13, x14, x15, x16, x17, x18, x19, x20], _ => exact ⟨_, _, _, _, _, _, _, _, _, _, _, _, _, _, _, _, _, _, _, _, _, rfl⟩
theorem len22 {α : Type} {vs : List α} (h : vs.length = 22) : ∃ x0 x1 x2 x3 x4 x5 x6 x7 x8 x9 x10 x11 x12 x13 x14 x15 x16 x17 x18 x19 x20 x21, vs = [x0, x1, x2, x3, x4, x5, x6, x7, x8, x9, x10, x11, x12, x13, x14, x15, x16, x17, x18, x19, x20, x21] := by
  match vs, h with
  | [x0, x1, x2, x3, x4, x5, x6, x7, x8, x9, x10, x11, x12, x13, x14, x15, x16, x17, x18, x19, x20, x21], _ => exact ⟨_, _, _, _, _, _, _, _, _, _, _, _, _, _, _, _, _, _, _, _, _, _, rfl⟩
theorem len23 {α : Type} {vs : List α} (h : vs.length = 23) : ∃ x0 x1 x2 x3 x4 x5 x6 x7 x8 x9 x10 x11 x12 x13 x14 x15 x16 x17 x18 x19 x20 x21 x22, vs = [x0, x1, x2, x3, x4, x5, x6, x7, x8, x9, x10, x11, x12, x13, x14, x15, x16, x17, x18, x19, x20, x21, x22] := by
  match vs, h with
  | [x0, x1, x2, x3, x4, x5, x6, x7, x8, x9, x10, x11, x12, x13, x14, x15, x16, x17, x18, x19, x20, x21, x22], _ => exact ⟨_, _, _, _, _, _, _, _, _, _, _, _, _, _, _, _, _, _, _, _, _, _, _, rfl⟩
theorem len24 {α : Type} {vs : List α} (h : vs.length = 24) : ∃ x0 x1 x2 x3 x4 x5 x6 x7 x8 x9 x10 x11 x12 x13 x14 x15 x16 x17 x18 x19 x20 x21 x22 x23, vs = [x0, x1, x2, x3, x4, x5, x6, x7, x8, x9, x10, x11, x12, x13, x14, x15, x16, x17, x18, x19, x20, x21, x22, x23] := by
  match vs, h with
  | [x0, x1, x2, x3, x4, x5, x6, x7, x8, x9, x10, x11, x12, x13, x14, x15, x16, x17, x18, x19, x20, x21, x22, x23], _ => exact ⟨_, _, _, _, _, _, _, _, _, _, _, _, _, _, _, _, _, _, _, _, _, _, _, _, rfl⟩
section
variable {P : Program} {ops : Array Oper} {Q : Exit → Act → World → Prop} {a0 : Act} {ds : List (Option Nat)} {Inv : (Nat → Bool) → List Value → World → Prop}
theorem wpAny_inv (hf : forwardB ops = true)
    (hstep : ∀ (i : Nat) (o : Oper), ops[i]? = some o → ∀ (L : Nat → Bool) (vs : List Value) (w : World), vs.length = ops.size → L i = false → Deps o L → Inv L vs w → ∀ K : Act → World → Prop,
      Shut (∀ a' v' w', a' = puts a0 ds (vs.set i v') → Inv (fun j => j == i || L j) (vs.set i v') w' → K a' w') →
      if Region.wanted o (yielded ops (puts a0 ds vs).tmps) = true then Oper.wp P o (puts a0 ds vs) w K Q else K ((puts a0 ds vs).put o.dst undef) w)
    (hend : ∀ (L : Nat → Bool) (vs : List Value) (w : World), vs.length = ops.size → (∀ i, i < ops.size → L i = true) → Inv L vs w → Q .normal (puts a0 ds vs) w) :
    ∀ (fuel : Nat) (listed : Array Bool) (vs : List Value) (w : World), unlisted listed ops.size ≤ fuel → listed.size = ops.size → vs.length = ops.size → Inv (fun j => listed.getD j false) vs w →
      wpAny P .any ops Q fuel listed (puts a0 ds vs) w := by
  have hall : ∀ listed : Array Bool, listed.size = ops.size → Region.ready .any ops listed = [] → ∀ i, i < ops.size → listed.getD i false = true := by
    intro listed hs hr i
    induction i using Nat.strongRecOn with
    | ind i ih =>
      intro hi
      refine Decidable.byContradiction fun hn => ?_
      have hmem : i ∈ Region.ready .any ops listed := by
        refine mem_ready.2 ⟨?_, ops[i], by simp [hi], fun e he hb => ?_⟩
        · simp only [Array.getD_eq_getD_getElem?] at hn ⊢
          rw [Array.getElem?_eq_getElem (by omega)] at hn ⊢
          simpa using hn
        · have h1 := List.all_eq_true.1 hf i (List.mem_range.2 hi)
          rw [Array.getElem?_eq_getElem hi] at h1
          simp only [Option.map_some, Option.getD_some] at h1
          have h2 := Array.all_eq_true_iff_forall_mem.1 h1 e he
          simp only [hb, Bool.not_true, Bool.false_or, decide_eq_true_eq] at h2
          exact ih _ h2 (by omega)
      rw [hr] at hmem; cases hmem
  intro fuel
  induction fuel with
  | zero =>
    intro listed vs w hu hs hv hI
    have h0 : ∀ i, i < ops.size → listed.getD i true = true := by
      intro i hi
      refine Decidable.byContradiction fun hn => ?_
      have : i ∈ (List.range ops.size).filter fun i => !listed.getD i true := List.mem_filter.2 ⟨List.mem_range.2 hi, by simpa using hn⟩
      have := List.length_pos_of_mem this
      unfold unlisted at hu; omega
    have hr : Region.ready .any ops listed = [] := by
      refine List.eq_nil_iff_forall_not_mem.2 fun i hi => ?_
      obtain ⟨h1, o, ho, -⟩ := mem_ready.1 hi
      rw [h0 i (Array.getElem?_eq_some_iff.1 ho).1] at h1; cases h1
    exact ⟨hr, hend _ vs w hv (hall listed hs hr) hI⟩
  | succ fuel ih =>
    intro listed vs w hu hs hv hI
    refine ⟨fun hr => hend _ vs w hv (hall listed hs hr) hI, fun i hi => ?_⟩
    obtain ⟨h1, o, ho, hd⟩ := mem_ready.1 hi
    have hlt : i < ops.size := (Array.getElem?_eq_some_iff.1 ho).1
    refine wpOp_step ho fun K hK => hstep i o ho (fun j => listed.getD j false) vs w hv ?_ (fun e he hb => hd e he hb) hI K ?_
    · simp only [Array.getD_eq_getD_getElem?] at h1 ⊢
      rw [Array.getElem?_eq_getElem (by omega)] at h1 ⊢
      simpa using h1
    · intro a' v' w' e hI'
      subst e
      refine hK _ _ (ih _ _ _ ?_ (by simpa using hs) (by simpa using hv) ?_)
      · have : unlisted (listed.setIfInBounds i true) ops.size < unlisted listed ops.size := by
          refine filter_lt (x := i) (List.mem_range.2 hlt) (by rw [h1]; rfl) ?_ (fun y hy => ?_)
          · simp only [Array.getD_eq_getD_getElem?, Array.getElem?_setIfInBounds]
            simp [hs, hlt]
          · simp only [Array.getD_eq_getD_getElem?, Array.getElem?_setIfInBounds] at hy ⊢
            by_cases e : i = y
            · subst e; simp [hs, hlt] at hy
            · rw [if_neg e] at hy; exact hy
        omega
      · have e : (fun j => (listed.setIfInBounds i true).getD j false) = (fun j => j == i || listed.getD j false) := funext fun j => setD listed i j (by omega)
        rw [e]; exact hI'
theorem wp_region_inv {id : Nat} {w : World} (ds : List (Option Nat)) (Inv : (Nat → Bool) → List Value → World → Prop) (vs0 : List Value) (hm : P.follows .mixedOrders = true) (hf : forwardB ops = true) (hl : vs0.length = ops.size)
    (h0 : a0 = puts a0 ds vs0) (hI : Inv (fun _ => false) vs0 w.drew)
    (hstep : AllAt (fun i o => ∀ (L : Nat → Bool) (vs : List Value) (w : World), vs.length = ops.size → L i = false → Deps o L → Inv L vs w → ∀ K : Act → World → Prop,
      Shut (∀ a' v' w', a' = puts a0 ds (vs.set i v') → Inv (fun j => j == i || L j) (vs.set i v') w' → K a' w') →
      if Region.wanted o (yielded ops (puts a0 ds vs).tmps) = true then Oper.wp P o (puts a0 ds vs) w K Q else K ((puts a0 ds vs).put o.dst undef) w) 0 ops.toList)
    (hend : ∀ (L : Nat → Bool) (vs : List Value) (w : World), vs.length = ops.size → (∀ i, i < ops.size → L i = true) → Inv L vs w → Q .normal (puts a0 ds vs) w) : (Code.region id ops true).wp P Q a0 w := by
  refine wp_region_any hm ?_
  rw [h0]
  refine wpAny_inv (a0 := a0) (ds := ds) (Inv := Inv) hf (fun i o ho => ?_) hend _ _ _ _ ?_ (by simp) hl ?_
  · have := hstep.at i o (by simpa using ho)
    rwa [Nat.zero_add] at this
  · unfold unlisted
    have := List.length_filter_le (fun i => !(Array.replicate ops.size false).getD i true) (List.range ops.size)
    simpa using this
  · have e : (fun j => (Array.replicate ops.size false).getD j false) = (fun _ : Nat => false) := funext fun j => by
      simp [Array.getD_eq_getD_getElem?, Array.getElem?_replicate]
      split <;> rfl
    rw [e]; exact hI
end
end Go.Proofs.YtdjldidfnddpmaaGreatDoor
