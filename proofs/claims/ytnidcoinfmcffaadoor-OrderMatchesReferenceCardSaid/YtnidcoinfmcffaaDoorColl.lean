/- Walks of slices.Collect, and of slices.Values and its iterator, at []int. Conditions: how the arguments lie in memory. -/
import Derived.Test.YtnidcoinfmcffaaDoorIter
namespace Go.Proofs.YtnidcoinfmcffaaDoor
open Go.RowKit Go.Shelf
attribute [local go_sem] Oper.semAt_some

/-- the call returns a slice of its own that holds l -/
def OwnRet (l : List Int) (w : World) (e : Ending) (w' : World) : Prop := ∃ v, e = .returned v ∧ OwnI w' w.heap.size v l ∧ Below w.heap.size w w'
set_option maxRecDepth 100000 in
set_option maxHeartbeats 1000000 in
theorem appendseq_any {α : Type} (f : α → Int) (g : Nat) (lb : Array Value) (eg : ∀ args w, (callFunc g args).run Tryd.prog w = .ok (.enter g args) w) (L : List α) (N : Nat) (w : World) (hN : N ≤ 1000000)
  (hseq : SeqStopsK Fence.wide 9 Tryd.prog g lb (fun x : α => #[.int .i64 (f x)]) (Below w.heap.size) (fun ys => ys = L) (fun pre => pre <+: L) N (w.alloc (.cells #[.slice none 0 0] 26))) :
  Calls Tryd.prog 80 #[.slice none 0 0, .func (.func g) #[] lb] w (OwnRet (L.map f) w) := by
 obtain ⟨i0, hi, hz0, hz1, hz2⟩ := info_parts infoInt
 have bO := Boxed.new w 26 (.slice none 0 0)
 have hB0 := bal w (.cells #[.slice none 0 0] 26)
 have hS := hide hseq
 clear hseq
 have hwf : ∀ f, Fence.wide.fn f = True := fun _ => rfl
 have hwd : Fence.wide.depth.isSome = false := rfl
 refine (callsIn_wide (n := 10)).1 ?_
 refine callsIn_of_wp_marks Tryd.func80 rfl trivial ?_ rfl
 simp only [Tryd.ntmps80, List.size_toArray, List.length_cons, List.length_nil, Nat.reduceAdd, Nat.reduceSub, Array.replicate_succ, Array.replicate_zero, List.push_toArray, List.append_toArray, List.nil_append, List.cons_append]
 gi_wp2_with fail
 refine wpIn_rangeFunc_ownG rfl (by omega) (gf := g) (lb := lb) rfl trivial eg hS.out (fun h k => h.trans k) (belowK_b (by simp)) (Below.refl _ _) (fun _ => rfl)
  (fun pre W => (∃ v, Boxed W w.heap.size 26 v ∧ W.ownsRow w.heap.size 3 1 v pre.length ((pre.map f).map (Value.int .i64)) ∧ True) ∧ Below w.heap.size w W)
  (fun _ _ _ => False)
  (OwnFrom.and (Own.from (holdsRow_own w.heap.size w.heap.size 26 3 1 (fun pre : List α => pre.length) (fun pre : List α => (pre.map f).map (Value.int .i64)) (fun _ _ => True)) _) (ownFrom_below (Nat.le_refl _) (by simp)))
  (fun _ _ _ _ _ hs _ _ => hs)
  ⟨⟨_, bO, World.ownsRow_nil _ _ _ _, trivial⟩, hB0⟩
  (fun x => { tmps := #[.slice none 0 0, .func (.func g) #[] lb, .pointer (some ⟨w.heap.size, 0, none⟩), undef, .slice none 0 0, .int .i64 (f x), .func (.func g) #[] lb, .int .i64 (f x), undef, undef, undef, undef, undef], defers := [] }) ?assign ?body ?done ?stop
 case assign =>
  intro l x W K hK
  gi_wp2
  exact hK
 case body =>
  rintro l pre x W ⟨⟨v, hv, hrow, -⟩, hB⟩ hlt
  have hc := hv.cell
  have hp2 : pre.length < 1000000 := by omega
  have hle : w.heap.size ≤ w.heap.size := Nat.le_refl _
  gi_wp2_with (gi_at_builtin; refine wpListIn_append_own _ rfl _ _ 26 rfl w.heap.size 3 i0 (.int .i64 0) 1 8 Tryd.underlying26 hi hz0 hz1 hz2 rfl (by decide) _ _ _ rfl (hrow.alloc _) ⟨W.heap.size, 0, none⟩ 1 1 [.int .i64 (f x)] rfl rfl (cell_one_new _ _ _) (by simp [Value.oneCell']) (by unfold maxLen; omega) (by omega) (by have := hB.size; simp; omega) ?_; intro v' w1 hown' hgrow _; obtain ⟨g', cap', rfl⟩ := ownsRow_succ hown'; obtain ⟨hv1, hv2, hr2, hk2, hb2⟩ := hv.appended (by decide) hrow hB.size hle hown' hgrow; have hc1 := hv1.cell; have hf1 := hv1.frozen)
  exact ⟨hk2.from _, hb2, ⟨_, hv2, by simpa using hr2, trivial⟩, hB.trans hb2⟩
 case done =>
  rintro D ys W hD rfl ⟨⟨v, hv, hrow, -⟩, hB⟩ hK
  have hc := hv.cell
  gi_wp2
  refine ⟨by simp, .inl ⟨_, _, rfl, run_takeDeferred hK, ?_⟩⟩
  exact ⟨_, results_tmp rfl _ _ _, v, rfl, (by have := ownsRow_putObj hrow (.deferred none) hK rfl; simpa [OwnI] using this), hB.trans (belowK_b (w := w) (Nat.le_refl _) W D _ _ (by simp at hD; omega) hK rfl rfl)⟩
 case stop =>
  rintro D c pre W _ _ h _
  exact h.elim
set_option maxHeartbeats 400000 in
theorem collect_any {α : Type} (f : α → Int) (g : Nat) (lb : Array Value) (eg : ∀ args w, (callFunc g args).run Tryd.prog w = .ok (.enter g args) w) (L : List α) (N : Nat) (w : World) (hN : N ≤ 1000000)
  (hseq : SeqStopsK Fence.wide 9 Tryd.prog g lb (fun x : α => #[.int .i64 (f x)]) (Below w.heap.size) (fun ys => ys = L) (fun pre => pre <+: L) N (w.alloc (.cells #[.slice none 0 0] 26))) :
  Calls Tryd.prog 55 #[.func (.func g) #[] lb] w (OwnRet (L.map f) w) := by
 have HS := hide hseq
 clear hseq
 go_enter Tryd.func55, Tryd.ntmps55
 go_wp2_with (go_at_call 80; refine (appendseq_any f g lb eg L N _ hN HS.out).mono ?_; rintro e w' ⟨v, rfl, hv, hb⟩)
 go_ret
 exact ⟨_, rfl, hv, hb⟩
end Go.Proofs.YtnidcoinfmcffaaDoor
