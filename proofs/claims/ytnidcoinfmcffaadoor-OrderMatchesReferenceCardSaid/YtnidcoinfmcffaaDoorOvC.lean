/- The reference of chapter 15: a relation as an array of arrays; Formed, pairs, before, Valid. Conditions: how the order lies in memory. -/
import Derived.Test.YtnidcoinfmcffaaDoorOsB
import Derived.Deep.DeepCutAuto
import Derived.Deep.MidRow
namespace Go.Proofs.YtnidcoinfmcffaaDoor
open Go.RowKit
attribute [local go_sem] Oper.semAt_some
def relL (R : RelO) : List Value := (List.range 64).map fun i => .bool (R (i / 8) (i % 8))
abbrev relV (R : RelO) : Value := .agg (relL R).toArray
theorem relL_len (R : RelO) : (relL R).length = 64 := by unfold relL; rw [List.length_map, List.length_range]
theorem relL_get (R : RelO) {a b : Nat} (ha : a < 8) (hb : b < 8) : (relL R)[a * 8 + b]? = some (.bool (R a b)) := by
 unfold relL
 rw [List.getElem?_map, List.getElem?_range (by omega)]
 show some (Value.bool (R ((a * 8 + b) / 8) ((a * 8 + b) % 8))) = _
 rw [show (a * 8 + b) / 8 = a by omega, show (a * 8 + b) % 8 = b by omega]
def putR (R : RelO) (a b : Nat) (v : Bool) : RelO := fun x y => if x = a ∧ y = b then v else R x y
theorem relL_set (R : RelO) {a b : Nat} (ha : a < 8) (hb : b < 8) (v : Bool) : (relL R).set (a * 8 + b) (.bool v) = relL (putR R a b v) := by
 unfold relL
 apply List.ext_getElem?
 intro i
 rw [List.getElem?_set]
 by_cases e : a * 8 + b = i
 ·subst e
  rw [if_pos rfl, List.length_map, List.length_range, if_pos (by omega), List.getElem?_map, List.getElem?_range (by omega)]
  show _ = some (Value.bool (putR R a b v ((a * 8 + b) / 8) ((a * 8 + b) % 8)))
  rw [show (a * 8 + b) / 8 = a by omega, show (a * 8 + b) % 8 = b by omega]
  unfold putR
  rw [if_pos ⟨rfl, rfl⟩]
 ·rw [if_neg e]
  by_cases h : i < 64
  ·rw [List.getElem?_map, List.getElem?_map, List.getElem?_range h]
   show some (Value.bool _) = some (Value.bool (putR R a b v (i / 8) (i % 8)))
   unfold putR
   rw [if_neg (by omega)]
  ·rw [List.getElem?_eq_none (by simpa using h), List.getElem?_eq_none (by simpa using h)]
theorem relL_one (R : RelO) : ∀ v ∈ relL R, v.oneCell' = true := fun v hv => by
 unfold relL at hv
 obtain ⟨i, -, rfl⟩ := List.mem_map.1 hv
 rfl
def zeroR : RelO := fun _ _ => false
theorem rel_size : (Tryd.prog.info? 62).map (·.size) = some 64 := by kernel_rfl
theorem rel_range {W : World} {b : Nat} {R : RelO} (h : Blk W b (relL R) 62) : W.rangeAt b 0 (relL R) := fun j v hv => by rw [Nat.zero_add]; exact h.cell j hv
theorem rel_there {W : World} {b : Nat} {R S : RelO} (h : Blk W b (relL R) 62) : W.there b 0 (relL S).toArray.size := fun j hj => by
 rw [Nat.zero_add]
 refine ⟨?_, h.frozen j⟩
 have hj : j < 64 := by rw [← relL_len S]; simpa using hj
 have hl : (relL R)[j]? = some ((relL R)[j]'(by rw [relL_len]; exact hj)) := List.getElem?_eq_getElem _
 rw [h.cell j hl]; rfl
theorem load_relV (W : World) (b : Nat) (R : RelO) (h : Blk W b (relL R) 62) : (Instr.loadAt 62 (.pointer (some ⟨b, 0, none⟩))).run Tryd.prog W = .ok (relV R) W :=
 run_loadAt_mid W b 0 62 (relL R) _ (rel_range h) Tryd.underlying62 rfl (by rw [relL_len]; exact rel_size)
theorem quiet_relV {C : World → Prop} {a : Act} {o : Oper} {K : Act → Prop} (x : Operand) (b : Nat) (R : RelO) (ho : o.op = .load 62 x) (hx : a.eval x = .pointer (some ⟨b, 0, none⟩)) (hC : ∀ w, C w → Blk w b (relL R) 62) (hk : K (a.put o.dst (relV R))) : o.quiet Tryd.prog a C K :=
 ⟨_, fun w hw => by
  have h1 := load_relV w b R (hC w hw)
  have h2 : (execOp a.eval o).run Tryd.prog w = .ok (.value (relV R)) w := by
   unfold execOp
   simp only [ho, hx]
   rw [Sem.run_bind, h1]; rfl
  unfold Oper.quietAt; rw [h2]; exact ⟨rfl, rfl⟩, hk⟩
theorem wp_load_rel {ops : Array Oper} {rest : List Oper} {op : Oper} {a : Act} {w : World} {Q : Exit → Act → World → Prop} (hgd : op.guard = none) (x : Operand) (ho : op.op = .load 62 x)
  (b : Nat) (hx : a.eval x = .pointer (some ⟨b, 0, none⟩)) (R : RelO) (h : Blk w b (relL R) 62) (hk : wpList Tryd.prog ops Q rest (a.put op.dst (relV R)) w) : wpList Tryd.prog ops Q (op :: rest) a w :=
 wpList_load_mid hgd 62 x ho b 0 hx (relL R) _ (rel_range h) Tryd.underlying62 rfl (by rw [relL_len]; exact rel_size) hk
theorem wp_store_rel {ops : Array Oper} {rest : List Oper} {op : Oper} {a : Act} {w : World} {Q : Exit → Act → World → Prop} (hgd : op.guard = none) (x y : Operand) (ho : op.op = .store 62 x y)
  (b : Nat) (R S : RelO) (hx : a.eval x = .pointer (some ⟨b, 0, none⟩)) (hy : a.eval y = relV R) (h : Blk w b (relL S) 62) (hk : wpList Tryd.prog ops Q rest (a.put op.dst undef) (w.setCells b 0 (relL R))) : wpList Tryd.prog ops Q (op :: rest) a w :=
 wpList_store_mid hgd 62 x y ho b 0 (relL R).toArray hx hy (rel_there h) (by rw [List.size_toArray, relL_len]; exact rel_size) (all_oneCell_toArray (relL_one R)) hk
def setLs : List Value → Nat → List Value → List Value
 | xs, _, [] => xs
 | xs, o, v :: r => setLs (xs.set o v) (o + 1) r
theorem Blk.setCells {b : Nat} {t : TypeId} : ∀ {vs xs : List Value} {o : Nat} {w : World}, Blk w b xs t → Blk (w.setCells b o vs) b (setLs xs o vs) t
 | [], _, _, _, h => h
 | v :: r, _, o, _, h => Blk.setCells (vs := r) (o := o + 1) (h.set o v)
theorem Below.setCellsB {B b : Nat} {w0 : World} (hB : B ≤ b) : ∀ {vs : List Value} {o : Nat} {w : World}, Below B w0 w → Below B w0 (w.setCells b o vs)
 | [], _, _, h => h
 | v :: r, o, _, h => Below.setCellsB (vs := r) (o := o + 1) hB (h.setCell (p := ⟨b, o, none⟩) hB v)
theorem setLs_full : ∀ (vs ys zs : List Value), vs.length = zs.length → setLs (ys ++ zs) ys.length vs = ys ++ vs
 | [], ys, [], _ => by simp [setLs]
 | [], _, _ :: _, h => by simp at h
 | _ :: _, _, [], h => by simp at h
 | v :: r, ys, z :: zs, h => by
  have e : (ys ++ z :: zs).set ys.length v = (ys ++ [v]) ++ zs := by simp
  show setLs ((ys ++ z :: zs).set ys.length v) (ys.length + 1) r = _
  rw [e, show ys.length + 1 = (ys ++ [v]).length by simp, setLs_full r (ys ++ [v]) zs (by simpa using h)]
  simp
theorem Blk.setRel {w : World} {b : Nat} {R S : RelO} (h : Blk w b (relL S) 62) : Blk (w.setCells b 0 (relL R)) b (relL R) 62 := by
 have h2 := Blk.setCells (vs := relL R) (o := 0) h
 rw [show setLs (relL S) 0 (relL R) = relL R from setLs_full (relL R) [] (relL S) (by rw [relL_len, relL_len])] at h2
 exact h2
abbrev RelG (w X : World) (O : Nat) (R : RelO) (W : World) : Prop := BoxG w X O 62 (relL R) (relL R) true W
theorem RelG.put {w X W : World} {O : Nat} {R : RelO} (h : RelG w X O R W) (hO : w.heap.size ≤ O) {a b : Nat} (ha : a < 8) (hb : b < 8) (v : Bool) : RelG w X O (putR R a b v) (W.setCell ⟨O, a * 8 + b, none⟩ (.bool v)) :=
 ⟨h.hb.setCell (p := ⟨O, a * 8 + b, none⟩) hO _, h.hE.trans (Eff.setCell _ _ _ _), by
  have := h.done.set (a * 8 + b) (.bool v)
  rw [relL_set R ha hb v] at this
  exact this⟩
theorem RelG.eq {w X W : World} {O : Nat} {R S : RelO} (h : RelG w X O R W) (e : relL R = relL S) : RelG w X O S W := by
 have h2 := h
 unfold RelG at h2 ⊢
 rw [e] at h2; exact h2
theorem RelG.cell {w X W : World} {O : Nat} {R : RelO} (h : RelG w X O R W) {a b : Nat} (ha : a < 8) (hb : b < 8) : W.cell? ⟨O, a * 8 + b, none⟩ = some (.bool (R a b)) := h.done.cell _ (relL_get R ha hb)
theorem results_rel {fn : Func} {p : Tmp} (h : fn.results = #[.cell p 62]) (tmps : Array Value) (w : World) (g : Nat) (R : RelO)
  (hp : tmps.getD p undef = .pointer (some ⟨g, 0, none⟩)) (hb : Blk w g (relL R) 62) : (results fn tmps).run Tryd.prog w = .ok (relV R) w :=
 results_cell_row h tmps w g _ _ _ _ hp hb Tryd.underlying62 rfl (by rw [List.size_toArray, relL_len]; exact rel_size)
/-- a new box for a relation, and what is stored in it at once -/
theorem wp_store_new {ops : Array Oper} {rest : List Oper} {op : Oper} {a : Act} {w : World} {zs : Array Value} {Q : Exit → Act → World → Prop} (hgd : op.guard = none) (x y : Operand) (ho : op.op = .store 62 x y)
  (R : RelO) (hz : zs = (relL zeroR).toArray) (hx : a.eval x = .pointer (some ⟨w.heap.size, 0, none⟩)) (hy : a.eval y = relV R)
  (h : ∀ W', Blk W' w.heap.size (relL R) 62 → Below w.heap.size w W' → wpList Tryd.prog ops Q rest (a.put op.dst undef) W') : wpList Tryd.prog ops Q (op :: rest) a (w.alloc (.cells zs 62)) := by
 have hB : Blk (w.alloc (.cells zs 62)) w.heap.size (relL zeroR) 62 := Blk.newA w _ hz
 exact wp_store_rel hgd x y ho w.heap.size R zeroR hx hy hB (h _ (hB.setRel) (Below.setCellsB (Nat.le_refl _) (bal w _)))
/-- the pairs, one after the other -/
theorem relP_next {ps : List (Int × Int)} {k : Nat} (hk : k < ps.length) {x y : Nat} (e : ps.getD k (0, 0) = ((x : Int), (y : Int))) : putR (relP (ps.take k)) x y true = relP (ps.take (k + 1)) := by
 funext a b
 unfold putR relP
 rw [take_succ' ps k (0, 0) hk, List.any_append, e]
 by_cases h : a = x ∧ b = y
 ·rw [if_pos h, h.1, h.2]; simp
 ·rw [if_neg h]
  have : decide (((x : Int), (y : Int)) = ((a : Int), (b : Int))) = false := by
   refine decide_eq_false fun e2 => h ?_
   have h1 := congrArg Prod.fst e2
   have h2 := congrArg Prod.snd e2
   simp only at h1 h2
   omega
  simp only [List.any_cons, List.any_nil, Bool.or_false, this]
/-- Warshall, in the middle of a round -/
def midR (r : RelO) (k a b : Nat) : RelO := fun x y => if x < a ∨ (x = a ∧ y < b) then relK r (k + 1) x y else relK r k x y
theorem relK_k1 (r : RelO) (k a : Nat) : relK r (k + 1) a k = relK r k a k := by
 show (relK r k a k || (relK r k a k && relK r k k k)) = _
 cases relK r k a k <;> simp
theorem relK_k2 (r : RelO) (k b : Nat) : relK r (k + 1) k b = relK r k k b := by
 show (relK r k k b || (relK r k k k && relK r k k b)) = _
 cases relK r k k b <;> simp
theorem midR_l (r : RelO) (k a b x : Nat) : midR r k a b x k = relK r k x k := by
 unfold midR
 split
 ·exact relK_k1 r k x
 ·rfl
theorem midR_r (r : RelO) (k a b y : Nat) : midR r k a b k y = relK r k k y := by
 unfold midR
 split
 ·exact relK_k2 r k y
 ·rfl
theorem midR_zero (r : RelO) (k : Nat) : midR r k 0 0 = relK r k := by
 funext x y
 unfold midR
 rw [if_neg (by omega)]
theorem midR_no {r : RelO} {k a b : Nat} (h : (relK r k a k && relK r k k b) = false) : midR r k a (b + 1) = midR r k a b := by
 funext x y
 unfold midR
 by_cases e : x = a ∧ y = b
 ·rw [if_pos (by omega), if_neg (by omega), e.1, e.2]
  show (relK r k a b || (relK r k a k && relK r k k b)) = _
  rw [h, Bool.or_false]
 ·by_cases h2 : x < a ∨ (x = a ∧ y < b)
  ·rw [if_pos (by omega), if_pos h2]
  ·rw [if_neg (by omega), if_neg h2]
theorem midR_yes {r : RelO} {k a b : Nat} (h : (relK r k a k && relK r k k b) = true) : putR (midR r k a b) a b true = midR r k a (b + 1) := by
 funext x y
 unfold putR midR
 by_cases e : x = a ∧ y = b
 ·rw [if_pos e, if_pos (by omega), e.1, e.2]
  show true = (relK r k a b || (relK r k a k && relK r k k b))
  rw [h, Bool.or_true]
 ·rw [if_neg e]
  by_cases h2 : x < a ∨ (x = a ∧ y < b)
  ·rw [if_pos h2, if_pos (by omega)]
  ·rw [if_neg h2, if_neg (by omega)]
theorem midR_row {n : Nat} {r : RelO} (hd : ∀ a b, r a b = true → a < n ∧ b < n) (k a : Nat) : midR r k a n = midR r k (a + 1) 0 := by
 funext x y
 unfold midR
 by_cases e : x = a
 ·subst e
  rw [if_pos (show x < x + 1 ∨ (x = x + 1 ∧ y < 0) from .inl (Nat.lt_succ_self x))]
  by_cases hy : y < n
  ·rw [if_pos (show x < x ∨ (x = x ∧ y < n) from .inr ⟨rfl, hy⟩)]
  ·rw [if_neg (show ¬ (x < x ∨ (x = x ∧ y < n)) by omega)]
   cases e1 : relK r k x y with
   | true => exact absurd (relK_dom hd k e1).2 hy
   | false =>
    cases e2 : relK r (k + 1) x y with
    | true => exact absurd (relK_dom hd (k + 1) e2).2 hy
    | false => rfl
 ·by_cases h2 : x < a
  ·rw [if_pos (.inl h2), if_pos (.inl (by omega))]
  ·rw [if_neg (by omega), if_neg (by omega)]
theorem midR_all {n : Nat} {r : RelO} (hd : ∀ a b, r a b = true → a < n ∧ b < n) (k : Nat) : midR r k n 0 = relK r (k + 1) := by
 funext x y
 unfold midR
 by_cases hx : x < n
 ·rw [if_pos (.inl hx)]
 ·rw [if_neg (by omega)]
  cases e1 : relK r k x y with
  | true => exact absurd (relK_dom hd k e1).1 hx
  | false =>
   cases e2 : relK r (k + 1) x y with
   | true => exact absurd (relK_dom hd (k + 1) e2).1 hx
   | false => rfl
end Go.Proofs.YtnidcoinfmcffaaDoor
