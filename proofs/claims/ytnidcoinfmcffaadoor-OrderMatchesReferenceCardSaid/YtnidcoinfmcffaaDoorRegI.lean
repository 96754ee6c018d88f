/- A region that draws its order, in a round of a loop over a function, by an invariant. No condition. -/
import Derived.Test.YtnidcoinfmcffaaDoorRegM
import Derived.Test.YtnidcoinfmcffaaDoorIter
import Derived.OrdersIn
namespace Go.Proofs.YtnidcoinfmcffaaDoor
open Go.RowKit
theorem oper_in {P : Program} {o : Oper} {a : Act} {w : World} {K : Act → World → Prop} {Q : Exit → Act → World → Prop} {l m : Nat} (hd : ∀ c, o.op ≠ .defer c) (h : Oper.wp P o a w K Q) : Oper.wpIn (Fence.wide.inRound l) m P o a w K Q := by
 refine ⟨fun _ _ => trivial, ?_⟩
 rw [Oper.semAt_eq _ _ _ hd]
 unfold Oper.wp at h
 generalize (execOp a.eval o).run P w = r at h ⊢
 match r, h with
 | .ok (.value v) w', h => exact h
 | .ok .skip w', h => exact h
 | .ok (.defer d) w', h => exact h
 | .ok (.enter f args) w', h => exact ⟨(fun h => by cases h), callsIn_wide.2 h⟩
 | .ok (.row row args) w', h =>
  refine ⟨(fun h => by cases h), fun c cs _ => ?_⟩
  obtain ⟨v, w'', hr, hs⟩ := h c cs
  exact ⟨v, w'', hr, stepsIn_wide.2 hs⟩
 | .halt (.panic v) w', h => exact h
theorem wpOpIn_step {P : Program} {ops : Array Oper} {Q : Exit → Act → World → Prop} {l m i : Nat} {o : Oper} {K : Act → World → Prop} {a : Act} {w : World} (ho : ops[i]? = some o) (hd : ∀ c, o.op ≠ .defer c)
  (h : ∀ K' : Act → World → Prop, (∀ a w, K a w → K' a w) → if Region.wanted o (yielded ops a.tmps) = true then Oper.wp P o a w K' Q else K' (a.put o.dst undef) w) : wpOpIn (Fence.wide.inRound l) m P ops Q i K a w := by
 have := h K (fun _ _ h => h)
 unfold wpOpIn
 rw [ho]
 show if Region.wanted o (yielded ops a.tmps) = true then _ else _
 split
 ·rename_i hw; rw [if_pos hw] at this; exact oper_in hd this
 ·rename_i hw; rw [if_neg hw] at this; exact ⟨fun _ _ => trivial, this⟩
def noDefB (ops : Array Oper) : Bool := ops.all fun o => match o.op with
 | .defer _ => false
 | _ => true
theorem noDef_at {ops : Array Oper} (h : noDefB ops = true) (i : Nat) (o : Oper) (ho : ops[i]? = some o) : ∀ c, o.op ≠ .defer c := by
 intro c e
 have := Array.all_eq_true_iff_forall_mem.1 h o (Array.mem_of_getElem? ho)
 rw [e] at this; cases this
section
variable {P : Program} {ops : Array Oper} {Q : Exit → Act → World → Prop} {a0 : Act} {ds : List (Option Nat)} {Inv : (Nat → Bool) → List Value → World → Prop} {l m : Nat}
theorem wpAnyIn_inv (hf : forwardB ops = true) (hdd : ∀ (i : Nat) (o : Oper), ops[i]? = some o → ∀ c, o.op ≠ .defer c)
  (hstep : ∀ (i : Nat) (o : Oper), ops[i]? = some o → ∀ (L : Nat → Bool) (vs : List Value) (w : World), vs.length = ops.size → L i = false → Deps o L → Inv L vs w → ∀ K : Act → World → Prop,
   Shut (∀ a' v' w', a' = puts a0 ds (vs.set i v') → Inv (fun j => j == i || L j) (vs.set i v') w' → K a' w') →
   if Region.wanted o (yielded ops (puts a0 ds vs).tmps) = true then Oper.wp P o (puts a0 ds vs) w K Q else K ((puts a0 ds vs).put o.dst undef) w)
  (hend : ∀ (L : Nat → Bool) (vs : List Value) (w : World), vs.length = ops.size → (∀ i, i < ops.size → L i = true) → Inv L vs w → Q .normal (puts a0 ds vs) w) :
  ∀ (fuel : Nat) (listed : Array Bool) (vs : List Value) (w : World), unlisted listed ops.size ≤ fuel → listed.size = ops.size → vs.length = ops.size → Inv (fun j => listed.getD j false) vs w →
   wpAnyIn (Fence.wide.inRound l) m P .any ops Q fuel listed (puts a0 ds vs) w := by
 have hall : ∀ listed : Array Bool, listed.size = ops.size → Region.ready .any ops listed = [] → ∀ i, i < ops.size → listed.getD i false = true := by
  intro listed hs hr i
  induction i using Nat.strongRecOn with
  | ind i ih =>
   intro hi
   refine Decidable.byContradiction fun hn => ?_
   have hmem : i ∈ Region.ready .any ops listed := by
    refine mem_ready.2 ⟨?_, ops[i], by simp [hi], fun e he hb => ?_⟩
    ·simp only [Array.getD_eq_getD_getElem?] at hn ⊢
     rw [Array.getElem?_eq_getElem (by omega)] at hn ⊢
     simpa using hn
    ·have h1 := List.all_eq_true.1 hf i (List.mem_range.2 hi)
     rw [Array.getElem?_eq_getElem hi] at h1
     simp only [Option.map_some, Option.getD_some] at h1
     have h2 := Array.all_eq_true_iff_forall_mem.1 h1 e he
     simp only [hb, Bool.not_true, Bool.false_or, decide_eq_true_eq] at h2
     exact ih _ h2 (by omega)
   rw [hr] at hmem; cases hmem
 intro fuel
 induction fuel with
 | zero =>
  intro listed vs w hu hs hv hI
  have h0 : ∀ i, i < ops.size → listed.getD i true = true := by
   intro i hi
   refine Decidable.byContradiction fun hn => ?_
   have : i ∈ (List.range ops.size).filter fun i => !listed.getD i true := List.mem_filter.2 ⟨List.mem_range.2 hi, by simpa using hn⟩
   have := List.length_pos_of_mem this
   unfold unlisted at hu; omega
  have hr : Region.ready .any ops listed = [] := by
   refine List.eq_nil_iff_forall_not_mem.2 fun i hi => ?_
   obtain ⟨h1, o, ho, -⟩ := mem_ready.1 hi
   rw [h0 i (Array.getElem?_eq_some_iff.1 ho).1] at h1; cases h1
  exact ⟨hr, hend _ vs w hv (hall listed hs hr) hI⟩
 | succ fuel ih =>
  intro listed vs w hu hs hv hI
  refine ⟨fun hr => hend _ vs w hv (hall listed hs hr) hI, fun i hi => ?_⟩
  obtain ⟨h1, o, ho, hd⟩ := mem_ready.1 hi
  have hlt : i < ops.size := (Array.getElem?_eq_some_iff.1 ho).1
  refine wpOpIn_step ho (hdd i o ho) fun K hK => hstep i o ho (fun j => listed.getD j false) vs w hv ?_ (fun e he hb => hd e he hb) hI K ?_
  ·simp only [Array.getD_eq_getD_getElem?] at h1 ⊢
   rw [Array.getElem?_eq_getElem (by omega)] at h1 ⊢
   simpa using h1
  ·intro a' v' w' e hI'
   subst e
   refine hK _ _ (ih _ _ _ ?_ (by simpa using hs) (by simpa using hv) ?_)
   ·have : unlisted (listed.setIfInBounds i true) ops.size < unlisted listed ops.size := by
     refine filter_lt (x := i) (List.mem_range.2 hlt) (by rw [h1]; rfl) ?_ (fun y hy => ?_)
     ·simp only [Array.getD_eq_getD_getElem?, Array.getElem?_setIfInBounds]
      simp [hs, hlt]
     ·simp only [Array.getD_eq_getD_getElem?, Array.getElem?_setIfInBounds] at hy ⊢
      by_cases e : i = y
      ·subst e; simp [hs, hlt] at hy
      ·rw [if_neg e] at hy; exact hy
    omega
   ·have e : (fun j => (listed.setIfInBounds i true).getD j false) = (fun j => j == i || listed.getD j false) := funext fun j => setD listed i j (by omega)
    rw [e]; exact hI'
theorem wpIn_region_inv {id : Nat} {w : World} (ds : List (Option Nat)) (Inv : (Nat → Bool) → List Value → World → Prop) (vs0 : List Value) (hm : P.follows .mixedOrders = true) (hf : forwardB ops = true) (hdf : noDefB ops = true) (hl : vs0.length = ops.size)
  (h0 : a0 = puts a0 ds vs0) (hI : Inv (fun _ => false) vs0 w.drew)
  (hstep : AllAt (fun i o => ∀ (L : Nat → Bool) (vs : List Value) (w : World), vs.length = ops.size → L i = false → Deps o L → Inv L vs w → ∀ K : Act → World → Prop,
   Shut (∀ a' v' w', a' = puts a0 ds (vs.set i v') → Inv (fun j => j == i || L j) (vs.set i v') w' → K a' w') →
   if Region.wanted o (yielded ops (puts a0 ds vs).tmps) = true then Oper.wp P o (puts a0 ds vs) w K Q else K ((puts a0 ds vs).put o.dst undef) w) 0 ops.toList)
  (hend : ∀ (L : Nat → Bool) (vs : List Value) (w : World), vs.length = ops.size → (∀ i, i < ops.size → L i = true) → Inv L vs w → Q .normal (puts a0 ds vs) w) : (Code.region id ops true).wpIn (Fence.wide.inRound l) m P Q a0 w := by
 refine wpIn_region_any hm ?_
 rw [h0]
 refine wpAnyIn_inv (a0 := a0) (ds := ds) (Inv := Inv) hf (noDef_at hdf) (fun i o ho => ?_) hend _ _ _ _ ?_ (by simp) hl ?_
 ·have := hstep.at i o (by simpa using ho)
  rwa [Nat.zero_add] at this
 ·unfold unlisted
  have := List.length_filter_le (fun i => !(Array.replicate ops.size false).getD i true) (List.range ops.size)
  simpa using this
 ·have e : (fun j => (Array.replicate ops.size false).getD j false) = (fun _ : Nat => false) := funext fun j => by
   simp [Array.getD_eq_getD_getElem?, Array.getElem?_replicate]
   split <;> rfl
  rw [e]; exact hI
end
end Go.Proofs.YtnidcoinfmcffaaDoor
