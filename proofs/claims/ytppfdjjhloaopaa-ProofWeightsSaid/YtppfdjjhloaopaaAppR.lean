/- Appends of many records to slices of a call's own; rows of its own whose coefficients lie elsewhere. No condition. -/
import Derived.Test.YtppfdjjhloaopaaProw
import Derived.Deep.RegionLawGrows
import Derived.Laws.AppendOwnNone
namespace Go.Proofs.Ytppfdjjhloaopaa
open Go.RowKit

theorem below_own {W w' : World} {B : Nat} {e : TypeId} {k : Nat} {v : Value} {L : List (List Value)} (hown : OwnR W B e k v L) (hB : B ≤ W.heap.size) (hg : W.grownBy w' v.ownBlock) : Below B W w' :=
  (Below.refl B W).grown hg hB (fun k hk => (World.ownsRow.lt hown.1 k hk).1)
theorem run_app_nil {w : World} (base : Nat) (t ty e : TypeId) (i : TypeInfo) (size : Nat) (ht : Try.prog.underlying t = some (.slice e)) (hi : Try.prog.info? e = some i)
    (v : Value) (n : Nat) (xs : List Value) (hown : w.ownsRow base e size v n xs) (c : Nat) : (Builtin.append_ #[t, t] ty #[v, .slice none 0 c]).run Try.prog w = .ok v w := by
  rcases hown.2 with ⟨rfl, rfl⟩ | ⟨g, cap, cur, rfl, _, _, hnc, _⟩
  · simp [Builtin.append_, run_underlying ht, sizeOf, typeInfo, hi, Builtin.lenOf, Builtin.firstCells]
  · simp [Builtin.append_, run_underlying ht, sizeOf, typeInfo, hi, Builtin.lenOf, Builtin.firstCells, hnc, storeCells]
theorem step_app_recs {W : World} {ops : Array Oper} {o : Oper} {a : Act} {K : Act → World → Prop} {Q : Exit → Act → World → Prop} {E : Prop} {e t : TypeId} {k by_ : Nat} {z : Value}
    (hinfo : (Try.prog.info? e).map (fun i => (i.zero, i.size, i.bytes)) = some (some z, k, by_)) (hzk : z.cells.size = k) (hk : 0 < k) (hu : Try.prog.underlying t = some (.slice e)) (hgd : o.guard = none) (s x : Operand)
    (ho : o.op = .call { callee := .builtin .append, args := #[s, x], argTypes := #[t, t] }) (B : Nat) (v : Value) (L : List (List Value)) (hs : a.eval s = v) (hown : OwnR W B e k v L)
    (xa : Option Addr) (m c : Nat) (Lx : List (List Value)) (hm : m = Lx.length) (hx : a.eval x = .slice xa m c) (h6 : ∀ r ∈ Lx, r.length = k) (hone : ∀ u ∈ Lx.flatten, u.oneCell' = true)
    (hcells : ∀ b, xa = some b → ∀ j u, Lx.flatten[j]? = some u → W.cell? (b.add j) = some u) (hnone : xa = none → Lx = []) (hlen : (L.length + Lx.length) * by_ ≤ 140737488355328) (hlen2 : L.length + Lx.length < 1000000) (hB : B ≤ W.heap.size)
    (h : ∀ v' w', OwnR w' B e k v' (L ++ Lx) → Below B W w' → K (a.put o.dst v') w') :
    if Region.wanted o (yielded ops a.tmps) = true then Oper.wp Try.prog o a W K Q else E := by
  subst hm
  have hw : Region.wanted o (yielded ops a.tmps) = true := by simp [Region.wanted, hgd]
  rw [if_pos hw]
  obtain ⟨i0, hi, hz0, hz1, hz2⟩ := info_parts hinfo
  cases xa with
  | none =>
    obtain rfl := hnone rfl
    have hrun := run_app_nil B t o.type e i0 k hu hi v L.length L.flatten hown.1 c
    have hx' : a.eval x = .slice none 0 c := hx
    unfold Oper.wp
    simp [execOp, ho, resolve, invoke, builtin, hs, hx', hrun, Result.andThen]
    exact h v W (by simpa using hown) (Below.refl _ _)
  | some ad =>
    refine wp_append_own _ s x t ho B e i0 z k by_ hu hi hz0 hz1 hz2 hzk hk v L.length L.flatten hs hown.1 ad Lx.length c Lx.flatten hx (flat_len h6) (hcells ad rfl) hone (by unfold maxLen; omega) hlen hB ?_
    intro v' w' hown' hg _
    refine h v' w' ⟨by simpa using hown', fun r hr => ?_⟩ (below_own hown hB hg)
    rcases List.mem_append.1 hr with h1 | h1
    · exact hown.2 r h1
    · exact h6 r h1
theorem own_form {W : World} {B : Nat} {e : TypeId} {k : Nat} {v : Value} {L : List (List Value)} (h : OwnR W B e k v L) {n : Nat} (hn : L.length = n) : ∃ a c, v = .slice a n c := by
  subst hn
  rcases h.form with ⟨h1, h2⟩ | ⟨g, c, cur, h1, -⟩
  · exact ⟨none, 0, by rw [h1, h2]; rfl⟩
  · exact ⟨_, _, h1⟩
theorem lit_recs (w : World) (e : TypeId) (k : Nat) {B : Nat} (hB : B ≤ w.heap.size) : OwnR (w.alloc (.cells #[] e)) B e k (.slice (some ⟨w.heap.size, 0, none⟩) 0 0) [] :=
  ⟨World.ownsRow_lit w #[] 0 hB (by unfold maxLen; omega) (by simp), fun r hr => by cases hr⟩
/-- rows of the call's own (from block B on), their coefficients below block C -/
def RowsMix (w : World) (B C : Nat) (v : Value) (l : List RowD) : Prop :=
  ∃ L, OwnR w B 67 6 v L ∧ L.length = l.length ∧ ∀ i, i < l.length → ∃ cv, L.getD i [] = rowCells (l.getD i row0) cv ∧ IntsIn (rng 0 C w) cv (l.getD i row0).coef
theorem RowsMix.rows {w : World} {B C : Nat} {v : Value} {l : List RowD} (h : RowsMix w B C v l) : RowsAt w v l := by
  obtain ⟨L, h1, h2, h3⟩ := h
  exact h1.rows h2 fun i hi => let ⟨cv, e, hc⟩ := h3 i hi; ⟨cv, e, hc.keeps (keeps_rng 0 C w)⟩
theorem ints_low {w : World} {C : Nat} {v : Value} {l : List Int} (hC : w.heap.size ≤ C) (h : IntsAt w v l) : IntsIn (rng 0 C w) v l := by
  obtain ⟨a, n, h1, h2, h3, h4⟩ := h
  refine ⟨a, n, h1, h2, h3, fun k hk => ?_⟩
  obtain ⟨b, o, e, hc⟩ := h4 k hk
  refine ⟨b, o, e, ?_⟩
  unfold rng
  rw [if_pos ⟨Nat.zero_le _, by have := lt_of_cell hc; show b < C; have h5 : b < w.heap.size := this; omega⟩]
  exact hc
theorem RowsMix.later {w w' : World} {B C : Nat} {v : Value} {l : List RowD} (h : RowsMix w B C v l) (hb : Below w.heap.size w w') (hC : C ≤ w.heap.size) : RowsMix w' B C v l := by
  obtain ⟨L, h1, h2, h3⟩ := h
  exact ⟨L, h1.later' hb, h2, fun i hi => let ⟨cv, e, hc⟩ := h3 i hi; ⟨cv, e, hc.keeps (keeps_rng_later fun k _ h => hb.block k (by omega))⟩⟩
theorem RowsMix.form {w : World} {B C : Nat} {v : Value} {l : List RowD} (h : RowsMix w B C v l) : (v = .slice none 0 0 ∧ l = []) ∨ ∃ g c, v = .slice (some ⟨g, 0, none⟩) l.length c ∧ B ≤ g := by
  obtain ⟨L, h1, h2, -⟩ := h
  rcases h1.form with ⟨e1, e2⟩ | ⟨g, c, cur, e1, e2, -⟩
  · exact .inl ⟨e1, by rw [e2] at h2; exact List.length_eq_zero_iff.1 h2.symm⟩
  · exact .inr ⟨g, c, by rw [e1, h2], e2⟩
/-- a part of a slice of rows, as records -/
theorem rows_from {c : Rd} {ra : Option Addr} {rc : Nat} {l : List RowD} (h : RowsIn c (.slice ra l.length rc) l) : ∃ Lr : List (List Value), Lr.length = l.length ∧ (∀ r ∈ Lr, r.length = 6) ∧ (∀ u ∈ Lr.flatten, u.oneCell' = true) ∧
    (∀ i, i < l.length → ∃ cv, Lr.getD i [] = rowCells (l.getD i row0) cv ∧ IntsIn c cv (l.getD i row0).coef) ∧
    (∀ K, K ≤ l.length → (∀ b, (if rc = K then ra else ra.map fun x => x.add (K * 6)) = some b → ∀ j u, (Lr.drop K).flatten[j]? = some u → c (b.add j) = some u) ∧ ((if rc = K then ra else ra.map fun x => x.add (K * 6)) = none → Lr.drop K = [])) ∧
    (∀ K, (∀ b, ra = some b → ∀ j u, (Lr.take K).flatten[j]? = some u → c (b.add j) = some u) ∧ (ra = none → Lr.take K = [])) := by
  obtain ⟨Lr, h1, h2, h3, h4, h5⟩ := rows_list h
  obtain ⟨a, n, e, hn1, hn2, hpos⟩ := id h
  cases e
  have hone : ∀ u ∈ Lr.flatten, u.oneCell' = true := fun u hu => by
    obtain ⟨r, hr, hur⟩ := List.mem_flatten.1 hu
    obtain ⟨i, hi, rfl⟩ := List.getElem_of_mem hr
    obtain ⟨cv, e, hc⟩ := h3 i (by omega)
    rw [List.getD_eq_getElem?_getD, List.getElem?_eq_getElem hi] at e
    simp at e
    rw [e] at hur
    obtain ⟨p, q, rfl, -⟩ := hc
    exact cells6 u hur
  refine ⟨Lr, h1, h2, hone, h3, fun K hK => ⟨fun b hb j u hj => ?_, fun hn => ?_⟩, fun K => ⟨fun b hb j u hj => ?_, fun hn => ?_⟩⟩
  · have hlt := (List.getElem?_eq_some_iff.1 hj).1
    have hd : (Lr.drop K).flatten.length = (Lr.length - K) * 6 := by rw [flat_len (k := 6) (fun r hr => h2 r (List.mem_of_mem_drop hr)), List.length_drop]
    have hKl : K < l.length := by
      refine Decidable.byContradiction fun hn => ?_
      rw [hd, h1, show l.length - K = 0 by omega] at hlt
      omega
    obtain ⟨b0, o0, cv, e0, -⟩ := hpos 0 (by omega)
    have hfl : Lr.flatten[K * 6 + j]? = some u := by
      have hsp : Lr.flatten = (Lr.take K).flatten ++ (Lr.drop K).flatten := by rw [← List.flatten_append, List.take_append_drop]
      have ht : (Lr.take K).flatten.length = K * 6 := by rw [flat_len (k := 6) (fun r hr => h2 r (List.mem_of_mem_take hr)), List.length_take, h1, Nat.min_eq_left hK]
      rw [hsp, List.getElem?_append_right (by omega), ht, show K * 6 + j - K * 6 = j by omega]
      exact hj
    have h6 := h4 _ e0 _ _ hfl
    rw [if_neg (by omega), e0] at hb
    simp only [Option.map_some, Option.some.injEq] at hb
    subst hb
    have ea : ((⟨b0, o0, none⟩ : Addr).add (K * 6)).add j = (⟨b0, o0, none⟩ : Addr).add (K * 6 + j) := by
      have ap : ∀ x y, (⟨b0, x, none⟩ : Addr).add y = ⟨b0, x + y, none⟩ := fun x y => by cases y <;> simp [Addr.add]
      rw [ap, ap, ap, Nat.add_assoc]
    rw [ea]; exact h6
  · by_cases hr : rc = K
    · have : Lr.length ≤ K := by omega
      exact List.drop_eq_nil_of_le this
    · rw [if_neg hr] at hn
      have hra : ra = none := by cases ra with
        | none => rfl
        | some x => simp at hn
      have := h5 hra
      rw [this] at h1
      rw [List.length_eq_zero_iff.1 h1]; simp
  · obtain ⟨m, hm⟩ : ∃ m, Lr.flatten = (Lr.take K).flatten ++ m := ⟨(Lr.drop K).flatten, by rw [← List.flatten_append, List.take_append_drop]⟩
    refine h4 b hb j u ?_
    rw [hm, List.getElem?_append_left (List.getElem?_eq_some_iff.1 hj).1]; exact hj
  · have := h5 hn
    rw [this] at h1
    rw [List.length_eq_zero_iff.1 h1]; simp
theorem getD_set_if {α : Type} (l : List α) (i j : Nat) (x d : α) (hi : i < l.length) : (l.set i x).getD j d = if j = i then x else l.getD j d := by
  by_cases h : j = i
  · subst h; rw [if_pos rfl, List.getD_eq_getElem?_getD, List.getElem?_set_self hi]; rfl
  · rw [if_neg h, List.getD_eq_getElem?_getD, List.getElem?_set_ne (Ne.symm h), List.getD_eq_getElem?_getD]
theorem RowsMix.setO {w : World} {B C b j : Nat} {v : Value} {l : List RowD} (h : RowsMix w B C v l) (hC : C ≤ b) (hB : b < B) (u : Value) : RowsMix (w.setCell ⟨b, j, none⟩ u) B C v l := by
  obtain ⟨L, h1, h2, h3⟩ := h
  exact ⟨L, ⟨ownsRow_setCell_below h1.1 hB u, h1.2⟩, h2, fun i hi => let ⟨cv, e, hc⟩ := h3 i hi; ⟨cv, e, hc.keeps (keeps_rng_later fun k _ hk => Below.heap_setCell _ _ _ _ (by show k ≠ b; omega))⟩⟩
/-- four cells of a row set anew -/
theorem RowsMix.name {w : World} {B C g c : Nat} {l : List RowD} (h : RowsMix w B C (.slice (some ⟨g, 0, none⟩) l.length c) l) (hCB : C ≤ B) {i : Nat} (hi : i < l.length) (u0 u1 u2 u3 : Int) :
    RowsMix (World.setCell (World.setCell (World.setCell (World.setCell w ⟨g, i * 6, none⟩ (.int .i64 u0)) ⟨g, i * 6 + 1, none⟩ (.int .i64 u1)) ⟨g, i * 6 + 2, none⟩ (.int .i64 u2)) ⟨g, i * 6 + 3, none⟩ (.int .i64 u3)) B C (.slice (some ⟨g, 0, none⟩) l.length c) (l.set i ⟨u0, u1, u2, u3, (l.getD i row0).coef, (l.getD i row0).most⟩) ∧
    (∀ w0, Below B w0 w → Below B w0 (World.setCell (World.setCell (World.setCell (World.setCell w ⟨g, i * 6, none⟩ (.int .i64 u0)) ⟨g, i * 6 + 1, none⟩ (.int .i64 u1)) ⟨g, i * 6 + 2, none⟩ (.int .i64 u2)) ⟨g, i * 6 + 3, none⟩ (.int .i64 u3))) := by
  obtain ⟨L, hO, hl, hs⟩ := h
  have hBg : B ≤ g := by
    rcases hO.form with ⟨e, -⟩ | ⟨g', c', cur, e, hb, -⟩
    · cases e
    · injection e with e1
      injection e1 with e2
      injection e2 with e3
      omega
  have hb : ∀ w0, Below B w0 w → Below B w0 (World.setCell (World.setCell (World.setCell (World.setCell w ⟨g, i * 6, none⟩ (.int .i64 u0)) ⟨g, i * 6 + 1, none⟩ (.int .i64 u1)) ⟨g, i * 6 + 2, none⟩ (.int .i64 u2)) ⟨g, i * 6 + 3, none⟩ (.int .i64 u3)) := fun w0 h => (((h.setCell (p := ⟨g, i * 6, none⟩) hBg _).setCell (p := ⟨g, i * 6 + 1, none⟩) hBg _).setCell (p := ⟨g, i * 6 + 2, none⟩) hBg _).setCell (p := ⟨g, i * 6 + 3, none⟩) hBg _
  refine ⟨?_, hb⟩
  obtain ⟨cv, e, hc⟩ := hs i hi
  rw [← hl] at hO
  have hi' : i < L.length := by omega
  have e1 : ∀ (x : List Value), (L.set i x).length = L.length := fun x => List.length_set
  have h0 := hO.set i 0 hi' (by omega) (.int .i64 u0)
  rw [← e1 ((L.getD i []).set 0 (.int .i64 u0))] at h0
  have h1 := h0.set i 1 (by rw [e1]; exact hi') (by omega) (.int .i64 u1)
  rw [getD_set_if _ _ _ _ _ hi', if_pos rfl, List.set_set, e1] at h1
  rw [← e1 (((L.getD i []).set 0 (.int .i64 u0)).set 1 (.int .i64 u1))] at h1
  have h2 := h1.set i 2 (by rw [e1]; exact hi') (by omega) (.int .i64 u2)
  rw [getD_set_if _ _ _ _ _ hi', if_pos rfl, List.set_set, e1] at h2
  rw [← e1 ((((L.getD i []).set 0 (.int .i64 u0)).set 1 (.int .i64 u1)).set 2 (.int .i64 u2))] at h2
  have h3 := h2.set i 3 (by rw [e1]; exact hi') (by omega) (.int .i64 u3)
  rw [getD_set_if _ _ _ _ _ hi', if_pos rfl, List.set_set, e1, hl] at h3
  refine ⟨_, h3, by rw [e1, List.length_set, hl], fun j hj => ?_⟩
  rw [List.length_set] at hj
  have hk : Keeps (rng 0 C w) (rng 0 C (World.setCell (World.setCell (World.setCell (World.setCell w ⟨g, i * 6, none⟩ (.int .i64 u0)) ⟨g, i * 6 + 1, none⟩ (.int .i64 u1)) ⟨g, i * 6 + 2, none⟩ (.int .i64 u2)) ⟨g, i * 6 + 3, none⟩ (.int .i64 u3))) :=
    keeps_rng_later fun k _ hk => (hb w (Below.refl _ _)).block k (by omega)
  rw [getD_set_if _ _ _ _ _ hi', getD_set_if _ _ _ _ _ hi]
  by_cases hji : j = i
  · rw [if_pos hji, if_pos hji, e]
    exact ⟨cv, rfl, hc.keeps hk⟩
  · rw [if_neg hji, if_neg hji]
    obtain ⟨cv', e', hc'⟩ := hs j hj
    exact ⟨cv', e', hc'.keeps hk⟩
theorem rowCells_one {r : RowD} {a : Option Addr} {n c : Nat} : ∀ u ∈ rowCells r (.slice a n c), u.oneCell' = true := cells6
end Go.Proofs.Ytppfdjjhloaopaa
