/- slices.Clone and slices.Delete at findings. Conditions: how the list lies in memory; sizes. -/
import Derived.Test.YtdjldidfnddpmaaGreatDoorSuL
import Derived.Test.YtdjldidfnddpmaaGreatDoorAppK
import Derived.Lib.SliceRun
import Derived.WalkSpells
import Derived.Deep.RegionLaw
namespace Go.Proofs.YtdjldidfnddpmaaGreatDoor
open Go.RowKit
theorem rec_news {α : Type} {f : α → List Value} {d : α} {k : Nat} (hk : ∀ x, (f x).length = k) (h0 : 0 < k) {w : World} {ad : Addr} {m n : Nat} {l : List α} (h : RecIn f d k w.cell? (.slice (some ad) m n) l) : ∀ j u, (l.map f).flatten[j]? = some u → w.cell? (ad.add j) = some u := by
  intro j u hj
  have hL : ∀ r ∈ l.map f, r.length = k := fun r hr => by obtain ⟨x, -, rfl⟩ := List.mem_map.1 hr; exact hk x
  have hjl : j < l.length * k := by
    have := (List.getElem?_eq_some_iff.1 hj).1
    rwa [flat_len hL, List.length_map] at this
  have hi : j / k < l.length := Nat.div_lt_of_lt_mul (by rw [Nat.mul_comm]; exact hjl)
  obtain ⟨b, o, e, hc⟩ := h.cell hi
  cases e
  have hjm : j / k * k + j % k = j := by rw [Nat.mul_comm]; exact Nat.div_add_mod j k
  have h1 := flat_get hL (j / k) (j % k) (Nat.mod_lt _ h0)
  rw [hjm, hj] at h1
  have hi' : (l.map f).getD (j / k) [] = f (l.getD (j / k) d) := by
    rw [List.getD_eq_getElem?_getD, List.getElem?_map, List.getElem?_eq_getElem hi, List.getD_eq_getElem?_getD, List.getElem?_eq_getElem hi]; rfl
  rw [hi'] at h1
  have h2 := hc _ _ h1.symm
  rw [Nat.add_assoc, hjm] at h2
  cases j <;> simpa [Addr.add] using h2
theorem infoFind : (Tryz.prog.info? 66).map (fun i => (i.zero, i.size, i.bytes)) = some (some find0V, 4, 32) := by kernel_rfl
theorem findC_len (x : FindD) : (findC x).length = 4 := rfl
theorem findC_one (l : List FindD) : ∀ u ∈ (l.map findC).flatten, u.oneCell' = true := fun u hu => by
  obtain ⟨r, hr, hu⟩ := List.mem_flatten.1 hu
  obtain ⟨x, -, rfl⟩ := List.mem_map.1 hr
  simp only [findC, List.mem_cons, List.not_mem_nil, or_false] at hu
  rcases hu with rfl | rfl | rfl | rfl <;> rfl
abbrev OwnFi (w : World) (B : Nat) (v : Value) (l : List FindD) : Prop := OwnR w B 66 4 v (l.map findC)
theorem OwnFi.inF {w : World} {B B' : Nat} {v : Value} {l : List FindD} (h : OwnFi w B v l) (hB : B' ≤ B) : FindsIn (frm B' w) v l := RecIn.of_own h findC_len hB
def CloneFQ (l : List FindD) (w : World) (e : Ending) (w' : World) : Prop := ∃ v, e = .returned v ∧ OwnFi w' w.heap.size v l ∧ Below w.heap.size w w'
set_option maxHeartbeats 1000000 in
theorem clonef_any (l : List FindD) (v : Value) (w : World) (hv : FindsIn w.cell? v l) (hl : l.length < 1000) :
    Calls Tryz.prog 28 #[v] w (CloneFQ l w) := by
  have hnl := fun (w : World) (a : Option Addr) (n c n' c' : Nat) => Lib.run_eql_slice_nil (P := Tryz.prog) w 52 66 a n c n' c' Tryz.underlying52
  obtain ⟨a, n, rfl, h1, h2, h3⟩ := id hv
  cases a with
  | none =>
    have hl0 : l = [] := by
      cases l with
      | nil => rfl
      | cons x t => obtain ⟨b, o, e, -⟩ := h3 0 (by simp); cases e
    have HL := hide hl0
    clear hl0
    go_enter Tryz.func28, Tryz.ntmps28
    go_wp2
    go_ret
    exact ⟨_, rfl, by rw [HL.out]; exact OwnR.nil _ _ _ _, Below.refl _ _⟩
  | some ad =>
    have HN := hide (rec_news findC_len (by decide) hv)
    clear h3
    go_enter Tryz.func28, Tryz.ntmps28
    go_wp2_with (at_builtin; refine app_recsE infoFind rfl (by decide) Tryz.underlying52 rfl _ _ rfl w.heap.size _ [] rfl (lit_recsK w 66 4 (Nat.le_refl _)) (some ad) l.length n (l.map findC) (by simp) rfl (fun r hr => by obtain ⟨x, -, rfl⟩ := List.mem_map.1 hr; rfl) (findC_one l) (fun b hb j u hj => by cases hb; exact keep (bal w _) (HN.out j u hj)) (fun h => by cases h) (by simp; omega) (by simp; omega) (by simp) ?_; intro v' w' hown hE hob)
    go_ret
    refine ⟨_, rfl, by simpa using hown, ?_⟩
    exact ⟨hE.os, hE.tape, hE.output, by have := hE.size; simp at this; omega, fun k hk => by
      rw [hE.block k (by simp; omega) (by intro e; have e : k = w.heap.size := Option.some.inj e; omega), Below.heap_alloc _ _ _ hk]⟩
/-- cells in a row of one's own -/
theorem ownsRow_setCells {B : Nat} {e : TypeId} {k : Nat} {g n c : Nat} : ∀ {vs xs : List Value} {o : Nat} {w : World}, w.ownsRow B e k (.slice (some ⟨g, 0, none⟩) n c) n xs → o + vs.length ≤ n * k → (w.setCells g o vs).ownsRow B e k (.slice (some ⟨g, 0, none⟩) n c) n (xs.take o ++ vs ++ xs.drop (o + vs.length)) ∧ w.grownBy (w.setCells g o vs) (some g)
  | [], xs, o, w, h, hl => ⟨by simpa [World.setCells] using h, rfl, rfl, rfl, Nat.le_refl _, fun _ _ _ => rfl⟩
  | v :: vs, xs, o, w, h, hl => by
    have hx := h.1
    simp only [List.length_cons] at hl
    have h1 := World.ownsRow.stored h o v
    have h2 := ownsRow_setCells (vs := vs) (o := o + 1) h1.1 (by omega)
    have ho : o < xs.length := by omega
    have e : (xs.set o v).take (o + 1) ++ vs ++ (xs.set o v).drop (o + 1 + vs.length) = xs.take o ++ (v :: vs) ++ xs.drop (o + (v :: vs).length) := by
      rw [List.drop_set_of_lt (by omega), List.take_succ_eq_append_getElem (by simpa using ho), List.take_set_of_le (Nat.le_refl _), List.getElem_set_self, List.length_cons, show o + 1 + vs.length = o + (vs.length + 1) by omega]
      simp
    rw [e] at h2
    exact ⟨h2.1, grown2 h1.2 h2.2⟩
theorem own_len {w : World} {B : Nat} {e : TypeId} {k g n c : Nat} {L : List (List Value)} (h : OwnR w B e k (.slice (some ⟨g, 0, none⟩) n c) L) : n = L.length := by
  rcases h.form with ⟨h1, -⟩ | ⟨g', c', cur, e1, -⟩
  · cases h1
  · cases e1; rfl
theorem erase_flat {k : Nat} {L : List (List Value)} (h : ∀ r ∈ L, r.length = k) {i : Nat} (hi : i < L.length) : (L.eraseIdx i).flatten = L.flatten.take (i * k) ++ (L.drop (i + 1)).flatten := by
  have e : L.flatten = (L.take i).flatten ++ (L.drop i).flatten := by rw [← List.flatten_append, List.take_append_drop]
  have h1 : (L.take i).flatten.length = i * k := by
    rw [flat_len fun r hr => h r (List.mem_of_mem_take hr), List.length_take, Nat.min_eq_left (by omega)]
  rw [e, List.take_left' h1, List.eraseIdx_eq_take_drop_succ, List.flatten_append]
theorem own_setAll {w : World} {B : Nat} {e : TypeId} {k g n c : Nat} {L : List (List Value)} (h : OwnR w B e k (.slice (some ⟨g, 0, none⟩) n c) L) {i : Nat} (hi : i < L.length) {news z : List Value} (hn : news = (L.drop (i + 1)).flatten) (hz : z.length = k) :
    OwnR ((w.setCells g (i * k) news).setCells g ((n - 1) * k) z) B e k (.slice (some ⟨g, 0, none⟩) (n - 1) c) (L.eraseIdx i) ∧ w.grownBy ((w.setCells g (i * k) news).setCells g ((n - 1) * k) z) (some g) := by
  obtain rfl := own_len h
  have hnl : news.length = (L.length - (i + 1)) * k := by
    rw [hn, flat_len fun r hr => h.2 r (List.mem_of_mem_drop hr), List.length_drop]
  have hLk : L.flatten.length = L.length * k := flat_len h.2
  have hm : i * k + news.length = (L.length - 1) * k := by
    rw [hnl, ← Nat.add_mul]; congr 1; omega
  have hm2 : (L.length - 1) * k + k = L.length * k := by
    rw [← Nat.succ_mul]; congr 1; omega
  obtain ⟨h1, g1⟩ := ownsRow_setCells (vs := news) (o := i * k) h.1 (by omega)
  obtain ⟨h2, g2⟩ := ownsRow_setCells (vs := z) (o := (L.length - 1) * k) h1 (by omega)
  refine ⟨⟨?_, fun r hr => h.2 r (List.mem_of_mem_eraseIdx hr)⟩, grown2 g1 g2⟩
  have he : (L.eraseIdx i).length = L.length - 1 := List.length_eraseIdx_of_lt hi
  rw [he]
  generalize (w.setCells g (i * k) news).setCells g ((L.length - 1) * k) z = W at h2
  have hx : ((L.flatten.take (i * k) ++ news ++ L.flatten.drop (i * k + news.length)).take ((L.length - 1) * k)) = (L.eraseIdx i).flatten := by
    rw [erase_flat h.2 hi, ← hn, List.take_left']
    rw [List.length_append, List.length_take, Nat.min_eq_left (by omega)]; omega
  rw [hx] at h2
  have hfl : (L.eraseIdx i).flatten.length = (L.length - 1) * k := by
    rw [flat_len fun r hr => h.2 r (List.mem_of_mem_eraseIdx hr), he]
  refine ⟨hfl, ?_⟩
  rcases h2.2 with ⟨e1, -⟩ | ⟨g', cap, cur, e1, e2, e3, e4, e5, e6, e7⟩
  · cases e1
  · cases e1
    refine .inr ⟨g, c, cur, rfl, e2, e3, by omega, e5, e6, ?_⟩
    have h8 := congrArg (List.take ((L.length - 1) * k)) e7
    rw [List.take_take, Nat.min_eq_left (by omega), List.append_assoc, List.take_left' hfl] at h8
    exact h8
theorem run_clear_one (w : World) (ty : TypeId) (g o c : Nat) (hc : ∀ j, j < 4 → (w.cell? ⟨g, o + j, none⟩).isSome = true) (hf : ∀ j, j < 4 → w.frozen? ⟨g, o + j, none⟩ = false) :
    (Builtin.clear_ #[52] ty #[.slice (some ⟨g, o, none⟩) 1 c]).run Tryz.prog w = .ok (.tuple #[]) (w.setCells g o (findC find0)) := by
  have hst := run_storeCells_cells (P := Tryz.prog) g o (findC find0) 0 w (by simpa [findC] using hc) (by simpa [findC] using hf) (by intro v hv; simp only [findC, List.mem_cons, List.not_mem_nil, or_false] at hv; rcases hv with rfl | rfl | rfl | rfl <;> rfl)
  simp only [Nat.add_zero] at hst
  have hzc : (Builtin.zeroCells (Value.agg #[.int .i64 0, .bool false, .int .i64 0, .int .i64 0]).cells 1).toList = findC find0 := by kernel_rfl
  simp [Builtin.clear_, run_underlying Tryz.underlying52, hzc, hst]
theorem erase_map {α β : Type} (f : α → β) : ∀ (l : List α) (k : Nat), (l.map f).eraseIdx k = (l.eraseIdx k).map f
  | [], _ => rfl
  | _ :: _, 0 => rfl
  | x :: l, k + 1 => by simp only [List.map_cons, List.eraseIdx_cons_succ, erase_map f l k]
def DelQ (g c B : Nat) (l : List FindD) (w : World) (e : Ending) (w' : World) : Prop := e = .returned (.slice (some ⟨g, 0, none⟩) l.length c) ∧ OwnFi w' B (.slice (some ⟨g, 0, none⟩) l.length c) l ∧ w.grownBy w' (some g)
set_option maxHeartbeats 2000000 in
set_option maxRecDepth 1000000 in
theorem delete_any (l : List FindD) (g n c B k : Nat) (w : World) (h : OwnFi w B (.slice (some ⟨g, 0, none⟩) n c) l) (hk : k < l.length) (hl : l.length < 1000) :
    Calls Tryz.prog 27 #[.slice (some ⟨g, 0, none⟩) n c, .int .i64 k, .int .i64 ((k : Int) + 1)] w (DelQ g c B (l.eraseIdx k) w) := by
  obtain ⟨i0, hi0, hz0, hz1, hz2⟩ := info_parts infoFind
  have hn := own_len h
  rw [List.length_map] at hn
  subst hn
  have h1 : w.ownsRow B 66 4 (.slice (some ⟨g, 0, none⟩) l.length c) l.length (l.map findC).flatten := by have h1 := h.1; rwa [List.length_map] at h1
  have hcap : l.length ≤ c ∧ c ≤ 9223372036854775807 := by
    rcases h1.2 with ⟨h1, -⟩ | ⟨g', c', cur, e1, -, -, e3, e4, -⟩
    · cases h1
    · cases e1; exact ⟨e3, by simpa [maxLen] using e4⟩
  have hL : ∀ r ∈ l.map findC, r.length = 4 := h.2
  obtain ⟨news, hnews⟩ : ∃ news, news = ((l.map findC).drop (k + 1)).flatten := ⟨_, rfl⟩
  have hnl : news.length = (l.length - (k + 1)) * 4 := by
    rw [hnews, flat_len fun r hr => hL r (List.mem_of_mem_drop hr), List.length_drop, List.length_map]
  have hcells : ∀ j, j < l.length * 4 → w.cell? ⟨g, j, none⟩ = (l.map findC).flatten[j]? := fun j hj => World.ownsRow.cellAt h1 j hj
  have hfz : ∀ j, w.frozen? ⟨g, j, none⟩ = false := fun j => World.ownsRow.frozenAt h1 j
  obtain ⟨A, hA, hsrc⟩ : ∃ A : Addr, (if c = k + 1 then some (⟨g, 0, none⟩ : Addr) else some ⟨g, (k + 1) * 4, none⟩) = some A ∧ Hid (∀ t u, news[t]? = some u → w.drew.cell? (A.add t) = some u) := by
    by_cases hc : c = k + 1
    · refine ⟨⟨g, 0, none⟩, by simp [hc], fun t u hu => ?_⟩
      have h0 : news.length = 0 := by rw [hnl]; omega
      rw [List.length_eq_zero_iff.1 h0] at hu
      simp at hu
    · refine ⟨⟨g, (k + 1) * 4, none⟩, by simp [hc], fun t u hu => ?_⟩
      have ht : t < (l.length - (k + 1)) * 4 := by
        have := (List.getElem?_eq_some_iff.1 hu).1
        rwa [hnl] at this
      rw [Addr.add_lit]
      show w.cell? _ = _
      rw [hcells _ (by omega)]
      have e : (l.map findC).flatten = ((l.map findC).take (k + 1)).flatten ++ news := by rw [hnews, ← List.flatten_append, List.take_append_drop]
      have e1 : ((l.map findC).take (k + 1)).flatten.length = (k + 1) * 4 := by
        rw [flat_len fun r hr => hL r (List.mem_of_mem_take hr), List.length_take, List.length_map, Nat.min_eq_left (by omega)]
      rw [e, List.getElem?_append_right (by omega), e1, Nat.add_sub_cancel_left]
      exact hu
  have s1 : Hid (news.length = (l.length - (k + 1)) * 4) := hide hnl
  have s2 : Hid (∀ u ∈ news, u.oneCell' = true) := hide fun u hu => findC_one l u (by
    rw [hnews] at hu
    obtain ⟨r, hr, hu⟩ := List.mem_flatten.1 hu
    exact List.mem_flatten.2 ⟨r, List.mem_of_mem_drop hr, hu⟩)
  have s3 : Hid (∀ t, t < news.length → (w.drew.cell? ⟨g, 0 + k * 4 + t, none⟩).isSome = true ∧ w.drew.frozen? ⟨g, 0 + k * 4 + t, none⟩ = false) := hide fun t ht => by
    rw [hnl] at ht
    refine ⟨?_, hfz _⟩
    show (w.cell? _).isSome = true
    rw [hcells _ (by omega)]
    rw [List.getElem?_eq_getElem (by rw [flat_len hL, List.length_map]; omega)]; rfl
  have hd : OwnFi w.drew B (.slice (some ⟨g, 0, none⟩) l.length c) l := h
  have hset := hide (own_setAll hd (i := k) (by rw [List.length_map]; exact hk) (z := findC find0) hnews rfl)
  obtain ⟨W1, hW1⟩ : ∃ W1, W1 = w.drew.setCells g (0 + k * 4) news := ⟨_, rfl⟩
  rw [show k * 4 = 0 + k * 4 by omega, ← hW1] at hset
  have e1 : l.length - (k + (l.length - (k + 1))) = 1 := by omega
  have e2 : k + (l.length - (k + 1)) = l.length - 1 := by omega
  have hcl : ∀ ty, (Builtin.clear_ #[52] ty #[.slice (some ⟨g, (k + (l.length - (k + 1))) * 4, none⟩) (l.length - (k + (l.length - (k + 1)))) (c - (k + (l.length - (k + 1))))]).run Tryz.prog W1 = .ok (.tuple #[]) (W1.setCells g ((l.length - 1) * 4) (findC find0)) := fun ty => by
    rw [e1, e2]
    refine run_clear_one W1 ty g _ _ (fun j hj => ?_) (fun j _ => by rw [hW1, World.frozen?_setCells]; exact hfz _)
    rw [hW1]
    refine World.isSome_setCells g news _ _ _ ?_
    show (w.cell? _).isSome = true
    rw [hcells _ (by omega)]
    rw [List.getElem?_eq_getElem (by rw [flat_len hL, List.length_map]; omega)]; rfl
  have hW : Hid (W1 = w.drew.setCells g (0 + k * 4) news) := hide hW1
  have hic : k ≤ c := by omega
  have hjc : k + 1 ≤ c := by omega
  clear hW1 hnews hnl hcells hfz hd hL
  have H := hide h
  clear h h1
  have HL : Hid ((l.eraseIdx k).length = l.length - 1) := hide (List.length_eraseIdx_of_lt hk)
  have hej : (k : Int) + 1 = ((k + 1 : Nat) : Int) := by omega
  rw [hej]
  clear hej
  have hj : k + 1 ≤ l.length := hk
  have hkj : k < k + 1 := by omega
  clear hk hl
  generalize hm : l.length = m at *
  have Hm := hide hm
  generalize hjk : k + 1 = j at *
  have Hj := hide hjk
  have E2 := hide e2
  clear hjk e1 e2 hm
  generalize hQ : DelQ g c B (l.eraseIdx k) w = QQ
  have HQ := hide hQ
  clear hQ
  go_enter Tryz.func27, Tryz.ntmps27
  go_wp2_with fail
  go_region_law (refine step_append_room rfl (.tmp 22) (.tmp 25) 52 rfl 66 i0 4 Tryz.underlying52 hi0 hz1 g 0 k c (by simp [Act.eval, Act.put]) A (m - j) (c - j) news (by simp [Act.eval, Act.put]) s1.out hsrc.out s2.out (by omega) s3.out ?_; rw [← hW.out])
  go_wp2
  show QQ (.returned (.slice (some ⟨g, 0, none⟩) (k + (m - j)) c)) _
  rw [← HQ.out]
  unfold DelQ
  rw [HL.out, E2.out]
  refine ⟨rfl, ?_, ?_⟩
  · have h1 := hset.out.1
    rw [erase_map] at h1
    exact h1
  · have h1 := hset.out.2
    exact ⟨h1.os, h1.tape, h1.output, h1.size, h1.block⟩
end Go.Proofs.YtdjldidfnddpmaaGreatDoor
