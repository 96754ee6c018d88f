/- slices.Clone and slices.Delete at ints. Conditions: how the list lies in memory; sizes. -/
import Derived.Test.YtdjldidfnddpmaaGreatDoorSuM
import Derived.Test.YtdjldidfnddpmaaGreatDoorJuG
namespace Go.Proofs.YtdjldidfnddpmaaGreatDoor
open Go.RowKit
def intC (x : Int) : List Value := [.int .i64 x]
theorem intC_len (x : Int) : (intC x).length = 1 := rfl
theorem intC_one (l : List Int) : ∀ u ∈ (l.map intC).flatten, u.oneCell' = true := fun u hu => by
  obtain ⟨r, hr, hu⟩ := List.mem_flatten.1 hu
  obtain ⟨x, -, rfl⟩ := List.mem_map.1 hr
  simp only [intC, List.mem_cons, List.not_mem_nil, or_false] at hu
  subst hu; rfl
abbrev NumJ (c : Rd) (v : Value) (l : List Int) : Prop := RecIn intC 0 1 c v l
abbrev OwnJ (w : World) (B : Nat) (v : Value) (l : List Int) : Prop := OwnR w B 3 1 v (l.map intC)
theorem nums_ints {c : Rd} {v : Value} {l : List Int} (h : NumJ c v l) : IntsIn c v l := by
  obtain ⟨a, n, e, h1, h2, h3⟩ := h
  refine ⟨a, n, e, h1, h2, fun k hk => ?_⟩
  obtain ⟨b, o, e2, hc⟩ := h3 k hk
  refine ⟨b, o, e2, ?_⟩
  have := hc 0 _ rfl
  rwa [Nat.add_zero, Nat.mul_one] at this
theorem ints_nums {c : Rd} {v : Value} {l : List Int} (h : IntsIn c v l) : NumJ c v l := by
  obtain ⟨a, n, e, h1, h2, h3⟩ := h
  refine ⟨a, n, e, h1, h2, fun k hk => ?_⟩
  obtain ⟨b, o, e2, hc⟩ := h3 k hk
  refine ⟨b, o, e2, fun j u hj => ?_⟩
  cases j with
  | zero => simp only [intC, List.getElem?_cons_zero, Option.some.injEq] at hj; subst hj; rw [Nat.add_zero, Nat.mul_one]; exact hc
  | succ j => simp [intC] at hj
def CloneJQ (l : List Int) (w : World) (e : Ending) (w' : World) : Prop := ∃ v, e = .returned v ∧ OwnJ w' w.heap.size v l ∧ Below w.heap.size w w'
set_option maxHeartbeats 1000000 in
theorem clonej_any (l : List Int) (v : Value) (w : World) (hv : NumJ w.cell? v l) (hl : l.length < 1000) :
    Calls Tryz.prog 37 #[v] w (CloneJQ l w) := by
  have hnl := fun (w : World) (a : Option Addr) (n c n' c' : Nat) => Lib.run_eql_slice_nil (P := Tryz.prog) w 36 3 a n c n' c' Tryz.underlying36
  obtain ⟨a, n, rfl, h1, h2, h3⟩ := id hv
  cases a with
  | none =>
    have hl0 : l = [] := by
      cases l with
      | nil => rfl
      | cons x t => obtain ⟨b, o, e, -⟩ := h3 0 (by simp); cases e
    have HL := hide hl0
    clear hl0
    go_enter Tryz.func37, Tryz.ntmps37
    go_wp2
    go_ret
    exact ⟨_, rfl, by rw [HL.out]; exact OwnR.nil _ _ _ _, Below.refl _ _⟩
  | some ad =>
    have HN := hide (rec_news intC_len (by decide) hv)
    clear h3
    go_enter Tryz.func37, Tryz.ntmps37
    go_wp2_with (at_builtin; refine app_recsE infoInt rfl (by decide) Tryz.underlying36 rfl _ _ rfl w.heap.size _ [] rfl (lit_recsK w 3 1 (Nat.le_refl _)) (some ad) l.length n (l.map intC) (by simp) rfl (fun r hr => by obtain ⟨x, -, rfl⟩ := List.mem_map.1 hr; rfl) (intC_one l) (fun b hb j u hj => by cases hb; exact keep (bal w _) (HN.out j u hj)) (fun h => by cases h) (by simp; omega) (by simp; omega) (by simp) ?_; intro v' w' hown hE hob)
    go_ret
    refine ⟨_, rfl, by simpa using hown, ?_⟩
    exact ⟨hE.os, hE.tape, hE.output, by have := hE.size; simp at this; omega, fun k hk => by
      rw [hE.block k (by simp; omega) (by intro e; have e : k = w.heap.size := Option.some.inj e; omega), Below.heap_alloc _ _ _ hk]⟩
theorem run_clear_int (w : World) (ty : TypeId) (g o c : Nat) (hc : ∀ j, j < 1 → (w.cell? ⟨g, o + j, none⟩).isSome = true) (hf : ∀ j, j < 1 → w.frozen? ⟨g, o + j, none⟩ = false) :
    (Builtin.clear_ #[36] ty #[.slice (some ⟨g, o, none⟩) 1 c]).run Tryz.prog w = .ok (.tuple #[]) (w.setCells g o (intC 0)) := by
  have hst := run_storeCells_cells (P := Tryz.prog) g o (intC 0) 0 w (by simpa [intC] using hc) (fun j hj => hf j hj) (by intro v hv; simp only [intC, List.mem_cons, List.not_mem_nil, or_false] at hv; subst hv; rfl)
  simp only [Nat.add_zero] at hst
  have hzc : (Builtin.zeroCells (Value.int .i64 0).cells 1).toList = intC 0 := by kernel_rfl
  simp [Builtin.clear_, run_underlying Tryz.underlying36, hzc, hst]
def DelJQ (g c B : Nat) (l : List Int) (w : World) (e : Ending) (w' : World) : Prop := e = .returned (.slice (some ⟨g, 0, none⟩) l.length c) ∧ OwnJ w' B (.slice (some ⟨g, 0, none⟩) l.length c) l ∧ w.grownBy w' (some g)
set_option maxHeartbeats 2000000 in
set_option maxRecDepth 1000000 in
theorem deletej_any (l : List Int) (g n c B k : Nat) (w : World) (h : OwnJ w B (.slice (some ⟨g, 0, none⟩) n c) l) (hk : k < l.length) (hl : l.length < 1000) :
    Calls Tryz.prog 36 #[.slice (some ⟨g, 0, none⟩) n c, .int .i64 k, .int .i64 ((k : Int) + 1)] w (DelJQ g c B (l.eraseIdx k) w) := by
  obtain ⟨i0, hi0, hz0, hz1, hz2⟩ := info_parts infoInt
  have hn := own_len h
  rw [List.length_map] at hn
  subst hn
  have h1 : w.ownsRow B 3 1 (.slice (some ⟨g, 0, none⟩) l.length c) l.length (l.map intC).flatten := by have h1 := h.1; rwa [List.length_map] at h1
  have hcap : l.length ≤ c ∧ c ≤ 9223372036854775807 := by
    rcases h1.2 with ⟨h1, -⟩ | ⟨g', c', cur, e1, -, -, e3, e4, -⟩
    · cases h1
    · cases e1; exact ⟨e3, by simpa [maxLen] using e4⟩
  have hL : ∀ r ∈ l.map intC, r.length = 1 := h.2
  obtain ⟨news, hnews⟩ : ∃ news, news = ((l.map intC).drop (k + 1)).flatten := ⟨_, rfl⟩
  have hnl : news.length = (l.length - (k + 1)) * 1 := by
    rw [hnews, flat_len fun r hr => hL r (List.mem_of_mem_drop hr), List.length_drop, List.length_map]
  have hcells : ∀ j, j < l.length * 1 → w.cell? ⟨g, j, none⟩ = (l.map intC).flatten[j]? := fun j hj => World.ownsRow.cellAt h1 j hj
  have hfz : ∀ j, w.frozen? ⟨g, j, none⟩ = false := fun j => World.ownsRow.frozenAt h1 j
  obtain ⟨A, hA, hsrc⟩ : ∃ A : Addr, (if c = k + 1 then some (⟨g, 0, none⟩ : Addr) else some ⟨g, k + 1, none⟩) = some A ∧ Hid (∀ t u, news[t]? = some u → w.drew.cell? (A.add t) = some u) := by
    by_cases hc : c = k + 1
    · refine ⟨⟨g, 0, none⟩, by simp [hc], fun t u hu => ?_⟩
      have h0 : news.length = 0 := by rw [hnl]; omega
      rw [List.length_eq_zero_iff.1 h0] at hu
      simp at hu
    · refine ⟨⟨g, k + 1, none⟩, by simp [hc], fun t u hu => ?_⟩
      have ht : t < (l.length - (k + 1)) * 1 := by
        have := (List.getElem?_eq_some_iff.1 hu).1
        rwa [hnl] at this
      rw [Addr.add_lit]
      show w.cell? _ = _
      rw [hcells _ (by omega)]
      have e : (l.map intC).flatten = ((l.map intC).take (k + 1)).flatten ++ news := by rw [hnews, ← List.flatten_append, List.take_append_drop]
      have e1 : ((l.map intC).take (k + 1)).flatten.length = (k + 1) * 1 := by
        rw [flat_len fun r hr => hL r (List.mem_of_mem_take hr), List.length_take, List.length_map, Nat.min_eq_left (by omega)]
      rw [e, List.getElem?_append_right (by omega), e1, Nat.mul_one, Nat.add_sub_cancel_left]
      exact hu
  have s1 : Hid (news.length = (l.length - (k + 1)) * 1) := hide hnl
  have s2 : Hid (∀ u ∈ news, u.oneCell' = true) := hide fun u hu => intC_one l u (by
    rw [hnews] at hu
    obtain ⟨r, hr, hu⟩ := List.mem_flatten.1 hu
    exact List.mem_flatten.2 ⟨r, List.mem_of_mem_drop hr, hu⟩)
  have s3 : Hid (∀ t, t < news.length → (w.drew.cell? ⟨g, 0 + k * 1 + t, none⟩).isSome = true ∧ w.drew.frozen? ⟨g, 0 + k * 1 + t, none⟩ = false) := hide fun t ht => by
    rw [hnl] at ht
    refine ⟨?_, hfz _⟩
    show (w.cell? _).isSome = true
    rw [hcells _ (by omega)]
    rw [List.getElem?_eq_getElem (by rw [flat_len hL, List.length_map]; omega)]; rfl
  have hd : OwnJ w.drew B (.slice (some ⟨g, 0, none⟩) l.length c) l := h
  have hset := hide (own_setAll hd (i := k) (by rw [List.length_map]; exact hk) (z := intC 0) hnews rfl)
  obtain ⟨W1, hW1⟩ : ∃ W1, W1 = w.drew.setCells g (0 + k * 1) news := ⟨_, rfl⟩
  rw [show k * 1 = 0 + k * 1 by omega, ← hW1] at hset
  have e1 : l.length - (k + (l.length - (k + 1))) = 1 := by omega
  have e2 : k + (l.length - (k + 1)) = l.length - 1 := by omega
  have hcl : ∀ ty, (Builtin.clear_ #[36] ty #[.slice (some ⟨g, k + (l.length - (k + 1)), none⟩) (l.length - (k + (l.length - (k + 1)))) (c - (k + (l.length - (k + 1))))]).run Tryz.prog W1 = .ok (.tuple #[]) (W1.setCells g ((l.length - 1) * 1) (intC 0)) := fun ty => by
    rw [e1, e2, Nat.mul_one]
    refine run_clear_int W1 ty g _ _ (fun j hj => ?_) (fun j _ => by rw [hW1, World.frozen?_setCells]; exact hfz _)
    rw [hW1]
    refine World.isSome_setCells g news _ _ _ ?_
    show (w.cell? _).isSome = true
    rw [hcells _ (by omega)]
    rw [List.getElem?_eq_getElem (by rw [flat_len hL, List.length_map]; omega)]; rfl
  have hW : Hid (W1 = w.drew.setCells g (0 + k * 1) news) := hide hW1
  have hic : k ≤ c := by omega
  have hjc : k + 1 ≤ c := by omega
  clear hW1 hnews hnl hcells hfz hd hL
  have H := hide h
  clear h h1
  have HL : Hid ((l.eraseIdx k).length = l.length - 1) := hide (List.length_eraseIdx_of_lt hk)
  have hej : (k : Int) + 1 = ((k + 1 : Nat) : Int) := by omega
  rw [hej]
  clear hej
  have hj : k + 1 ≤ l.length := hk
  have hkj : k < k + 1 := by omega
  clear hk hl
  generalize hm : l.length = m at *
  have Hm := hide hm
  generalize hjk : k + 1 = j at *
  have Hj := hide hjk
  have E2 := hide e2
  clear hjk e1 e2 hm
  generalize hQ : DelJQ g c B (l.eraseIdx k) w = QQ
  have HQ := hide hQ
  clear hQ
  go_enter Tryz.func36, Tryz.ntmps36
  go_wp2_with fail
  go_region_law (refine step_append_room rfl (.tmp 22) (.tmp 25) 36 rfl 3 i0 1 Tryz.underlying36 hi0 hz1 g 0 k c (by simp [Act.eval, Act.put]) A (m - j) (c - j) news (by simp [Act.eval, Act.put]) s1.out hsrc.out s2.out (by omega) s3.out ?_; rw [← hW.out])
  go_wp2
  show QQ (.returned (.slice (some ⟨g, 0, none⟩) (k + (m - j)) c)) _
  rw [← HQ.out]
  unfold DelJQ
  rw [HL.out, E2.out]
  refine ⟨rfl, ?_, ?_⟩
  · have h1 := hset.out.1
    rw [erase_map, Nat.mul_one] at h1
    exact h1
  · have h1 := hset.out.2
    rw [Nat.mul_one] at h1
    exact ⟨h1.os, h1.tape, h1.output, h1.size, h1.block⟩
end Go.Proofs.YtdjldidfnddpmaaGreatDoor
