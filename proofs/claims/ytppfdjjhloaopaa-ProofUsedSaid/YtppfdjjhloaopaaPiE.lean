/- Appends of rows; what check finds, and what that says of all choices; the plain laws of ProofMore; rows that a call has copied and made. Conditions: how the values lie in memory; sizes. -/
import Derived.Test.YtppfdjjhloaopaaProw
import Derived.Deep.RegionLawGrows
import Derived.Laws.AppendOwnNone
import Derived.Maps.AppendAt
import Derived.Test.YtppfdjjhloaopaaPfF
import Derived.Test.YtppfdjjhloaopaaPmodF
import Derived.Test.YtppfdjjhloaopaaPmodD
import Derived.Test.YtppfdjjhloaopaaPgS
import Derived.Test.YtppfdjjhloaopaaLwZ
import Derived.Test.YtppfdjjhloaopaaRegM
namespace Go.Proofs.Ytppfdjjhloaopaa
open Go.RowKit

theorem below_own {W w' : World} {B : Nat} {e : TypeId} {k : Nat} {v : Value} {L : List (List Value)} (hown : OwnR W B e k v L) (hB : B ≤ W.heap.size) (hg : W.grownBy w' v.ownBlock) : Below B W w' :=
  (Below.refl B W).grown hg hB (fun k hk => (World.ownsRow.lt hown.1 k hk).1)
theorem run_app_nil {w : World} (base : Nat) (t ty e : TypeId) (i : TypeInfo) (size : Nat) (ht : Try.prog.underlying t = some (.slice e)) (hi : Try.prog.info? e = some i)
    (v : Value) (n : Nat) (xs : List Value) (hown : w.ownsRow base e size v n xs) (c : Nat) : (Builtin.append_ #[t, t] ty #[v, .slice none 0 c]).run Try.prog w = .ok v w := by
  rcases hown.2 with ⟨rfl, rfl⟩ | ⟨g, cap, cur, rfl, _, _, hnc, _⟩
  · simp [Builtin.append_, run_underlying ht, sizeOf, typeInfo, hi, Builtin.lenOf, Builtin.firstCells]
  · simp [Builtin.append_, run_underlying ht, sizeOf, typeInfo, hi, Builtin.lenOf, Builtin.firstCells, hnc, storeCells]
theorem step_app_recs {W : World} {ops : Array Oper} {o : Oper} {a : Act} {K : Act → World → Prop} {Q : Exit → Act → World → Prop} {E : Prop} {e t : TypeId} {k by_ : Nat} {z : Value}
    (hinfo : (Try.prog.info? e).map (fun i => (i.zero, i.size, i.bytes)) = some (some z, k, by_)) (hzk : z.cells.size = k) (hk : 0 < k) (hu : Try.prog.underlying t = some (.slice e)) (hgd : o.guard = none) (s x : Operand)
    (ho : o.op = .call { callee := .builtin .append, args := #[s, x], argTypes := #[t, t] }) (B : Nat) (v : Value) (L : List (List Value)) (hs : a.eval s = v) (hown : OwnR W B e k v L)
    (xa : Option Addr) (m c : Nat) (Lx : List (List Value)) (hm : m = Lx.length) (hx : a.eval x = .slice xa m c) (h6 : ∀ r ∈ Lx, r.length = k) (hone : ∀ u ∈ Lx.flatten, u.oneCell' = true)
    (hcells : ∀ b, xa = some b → ∀ j u, Lx.flatten[j]? = some u → W.cell? (b.add j) = some u) (hnone : xa = none → Lx = []) (hlen : (L.length + Lx.length) * by_ ≤ 140737488355328) (hlen2 : L.length + Lx.length < 1000000) (hB : B ≤ W.heap.size)
    (h : ∀ v' w', OwnR w' B e k v' (L ++ Lx) → Below B W w' → K (a.put o.dst v') w') :
    if Region.wanted o (yielded ops a.tmps) = true then Oper.wp Try.prog o a W K Q else E := by
  subst hm
  have hw : Region.wanted o (yielded ops a.tmps) = true := by simp [Region.wanted, hgd]
  rw [if_pos hw]
  obtain ⟨i0, hi, hz0, hz1, hz2⟩ := info_parts hinfo
  cases xa with
  | none =>
    obtain rfl := hnone rfl
    have hrun := run_app_nil B t o.type e i0 k hu hi v L.length L.flatten hown.1 c
    have hx' : a.eval x = .slice none 0 c := hx
    unfold Oper.wp
    simp [execOp, ho, resolve, invoke, builtin, hs, hx', hrun, Result.andThen]
    exact h v W (by simpa using hown) (Below.refl _ _)
  | some ad =>
    refine wp_append_own _ s x t ho B e i0 z k by_ hu hi hz0 hz1 hz2 hzk hk v L.length L.flatten hs hown.1 ad Lx.length c Lx.flatten hx (flat_len h6) (hcells ad rfl) hone (by unfold maxLen; omega) hlen hB ?_
    intro v' w' hown' hg _
    refine h v' w' ⟨by simpa using hown', fun r hr => ?_⟩ (below_own hown hB hg)
    rcases List.mem_append.1 hr with h1 | h1
    · exact hown.2 r h1
    · exact h6 r h1
theorem own_form {W : World} {B : Nat} {e : TypeId} {k : Nat} {v : Value} {L : List (List Value)} (h : OwnR W B e k v L) {n : Nat} (hn : L.length = n) : ∃ a c, v = .slice a n c := by
  subst hn
  rcases h.form with ⟨h1, h2⟩ | ⟨g, c, cur, h1, -⟩
  · exact ⟨none, 0, by rw [h1, h2]; rfl⟩
  · exact ⟨_, _, h1⟩
theorem lit_recs (w : World) (e : TypeId) (k : Nat) {B : Nat} (hB : B ≤ w.heap.size) : OwnR (w.alloc (.cells #[] e)) B e k (.slice (some ⟨w.heap.size, 0, none⟩) 0 0) [] :=
  ⟨World.ownsRow_lit w #[] 0 hB (by unfold maxLen; omega) (by simp), fun r hr => by cases hr⟩
/-- rows of the call's own (from block B on), their coefficients below block C -/
def RowsMix (w : World) (B C : Nat) (v : Value) (l : List RowD) : Prop :=
  ∃ L, OwnR w B 67 6 v L ∧ L.length = l.length ∧ ∀ i, i < l.length → ∃ cv, L.getD i [] = rowCells (l.getD i row0) cv ∧ IntsIn (rng 0 C w) cv (l.getD i row0).coef
theorem RowsMix.rows {w : World} {B C : Nat} {v : Value} {l : List RowD} (h : RowsMix w B C v l) : RowsAt w v l := by
  obtain ⟨L, h1, h2, h3⟩ := h
  exact h1.rows h2 fun i hi => let ⟨cv, e, hc⟩ := h3 i hi; ⟨cv, e, hc.keeps (keeps_rng 0 C w)⟩
theorem ints_low {w : World} {C : Nat} {v : Value} {l : List Int} (hC : w.heap.size ≤ C) (h : IntsAt w v l) : IntsIn (rng 0 C w) v l := by
  obtain ⟨a, n, h1, h2, h3, h4⟩ := h
  refine ⟨a, n, h1, h2, h3, fun k hk => ?_⟩
  obtain ⟨b, o, e, hc⟩ := h4 k hk
  refine ⟨b, o, e, ?_⟩
  unfold rng
  rw [if_pos ⟨Nat.zero_le _, by have := lt_of_cell hc; show b < C; have h5 : b < w.heap.size := this; omega⟩]
  exact hc
theorem RowsMix.later {w w' : World} {B C : Nat} {v : Value} {l : List RowD} (h : RowsMix w B C v l) (hb : Below w.heap.size w w') (hC : C ≤ w.heap.size) : RowsMix w' B C v l := by
  obtain ⟨L, h1, h2, h3⟩ := h
  exact ⟨L, h1.later' hb, h2, fun i hi => let ⟨cv, e, hc⟩ := h3 i hi; ⟨cv, e, hc.keeps (keeps_rng_later fun k _ h => hb.block k (by omega))⟩⟩
theorem RowsMix.form {w : World} {B C : Nat} {v : Value} {l : List RowD} (h : RowsMix w B C v l) : (v = .slice none 0 0 ∧ l = []) ∨ ∃ g c, v = .slice (some ⟨g, 0, none⟩) l.length c ∧ B ≤ g := by
  obtain ⟨L, h1, h2, -⟩ := h
  rcases h1.form with ⟨e1, e2⟩ | ⟨g, c, cur, e1, e2, -⟩
  · exact .inl ⟨e1, by rw [e2] at h2; exact List.length_eq_zero_iff.1 h2.symm⟩
  · exact .inr ⟨g, c, by rw [e1, h2], e2⟩
/-- a part of a slice of rows, as records -/
theorem rows_from {c : Rd} {ra : Option Addr} {rc : Nat} {l : List RowD} (h : RowsIn c (.slice ra l.length rc) l) : ∃ Lr : List (List Value), Lr.length = l.length ∧ (∀ r ∈ Lr, r.length = 6) ∧ (∀ u ∈ Lr.flatten, u.oneCell' = true) ∧
    (∀ i, i < l.length → ∃ cv, Lr.getD i [] = rowCells (l.getD i row0) cv ∧ IntsIn c cv (l.getD i row0).coef) ∧
    (∀ K, K ≤ l.length → (∀ b, (if rc = K then ra else ra.map fun x => x.add (K * 6)) = some b → ∀ j u, (Lr.drop K).flatten[j]? = some u → c (b.add j) = some u) ∧ ((if rc = K then ra else ra.map fun x => x.add (K * 6)) = none → Lr.drop K = [])) ∧
    (∀ K, (∀ b, ra = some b → ∀ j u, (Lr.take K).flatten[j]? = some u → c (b.add j) = some u) ∧ (ra = none → Lr.take K = [])) := by
  obtain ⟨Lr, h1, h2, h3, h4, h5⟩ := rows_list h
  obtain ⟨a, n, e, hn1, hn2, hpos⟩ := id h
  cases e
  have hone : ∀ u ∈ Lr.flatten, u.oneCell' = true := fun u hu => by
    obtain ⟨r, hr, hur⟩ := List.mem_flatten.1 hu
    obtain ⟨i, hi, rfl⟩ := List.getElem_of_mem hr
    obtain ⟨cv, e, hc⟩ := h3 i (by omega)
    rw [List.getD_eq_getElem?_getD, List.getElem?_eq_getElem hi] at e
    simp at e
    rw [e] at hur
    obtain ⟨p, q, rfl, -⟩ := hc
    exact cells6 u hur
  refine ⟨Lr, h1, h2, hone, h3, fun K hK => ⟨fun b hb j u hj => ?_, fun hn => ?_⟩, fun K => ⟨fun b hb j u hj => ?_, fun hn => ?_⟩⟩
  · have hlt := (List.getElem?_eq_some_iff.1 hj).1
    have hd : (Lr.drop K).flatten.length = (Lr.length - K) * 6 := by rw [flat_len (k := 6) (fun r hr => h2 r (List.mem_of_mem_drop hr)), List.length_drop]
    have hKl : K < l.length := by
      refine Decidable.byContradiction fun hn => ?_
      rw [hd, h1, show l.length - K = 0 by omega] at hlt
      omega
    obtain ⟨b0, o0, cv, e0, -⟩ := hpos 0 (by omega)
    have hfl : Lr.flatten[K * 6 + j]? = some u := by
      have hsp : Lr.flatten = (Lr.take K).flatten ++ (Lr.drop K).flatten := by rw [← List.flatten_append, List.take_append_drop]
      have ht : (Lr.take K).flatten.length = K * 6 := by rw [flat_len (k := 6) (fun r hr => h2 r (List.mem_of_mem_take hr)), List.length_take, h1, Nat.min_eq_left hK]
      rw [hsp, List.getElem?_append_right (by omega), ht, show K * 6 + j - K * 6 = j by omega]
      exact hj
    have h6 := h4 _ e0 _ _ hfl
    rw [if_neg (by omega), e0] at hb
    simp only [Option.map_some, Option.some.injEq] at hb
    subst hb
    have ea : ((⟨b0, o0, none⟩ : Addr).add (K * 6)).add j = (⟨b0, o0, none⟩ : Addr).add (K * 6 + j) := by
      have ap : ∀ x y, (⟨b0, x, none⟩ : Addr).add y = ⟨b0, x + y, none⟩ := fun x y => by cases y <;> simp [Addr.add]
      rw [ap, ap, ap, Nat.add_assoc]
    rw [ea]; exact h6
  · by_cases hr : rc = K
    · have : Lr.length ≤ K := by omega
      exact List.drop_eq_nil_of_le this
    · rw [if_neg hr] at hn
      have hra : ra = none := by cases ra with
        | none => rfl
        | some x => simp at hn
      have := h5 hra
      rw [this] at h1
      rw [List.length_eq_zero_iff.1 h1]; simp
  · obtain ⟨m, hm⟩ : ∃ m, Lr.flatten = (Lr.take K).flatten ++ m := ⟨(Lr.drop K).flatten, by rw [← List.flatten_append, List.take_append_drop]⟩
    refine h4 b hb j u ?_
    rw [hm, List.getElem?_append_left (List.getElem?_eq_some_iff.1 hj).1]; exact hj
  · have := h5 hn
    rw [this] at h1
    rw [List.length_eq_zero_iff.1 h1]; simp
theorem getD_set_if {α : Type} (l : List α) (i j : Nat) (x d : α) (hi : i < l.length) : (l.set i x).getD j d = if j = i then x else l.getD j d := by
  by_cases h : j = i
  · subst h; rw [if_pos rfl, List.getD_eq_getElem?_getD, List.getElem?_set_self hi]; rfl
  · rw [if_neg h, List.getD_eq_getElem?_getD, List.getElem?_set_ne (Ne.symm h), List.getD_eq_getElem?_getD]
theorem RowsMix.setO {w : World} {B C b j : Nat} {v : Value} {l : List RowD} (h : RowsMix w B C v l) (hC : C ≤ b) (hB : b < B) (u : Value) : RowsMix (w.setCell ⟨b, j, none⟩ u) B C v l := by
  obtain ⟨L, h1, h2, h3⟩ := h
  exact ⟨L, ⟨ownsRow_setCell_below h1.1 hB u, h1.2⟩, h2, fun i hi => let ⟨cv, e, hc⟩ := h3 i hi; ⟨cv, e, hc.keeps (keeps_rng_later fun k _ hk => Below.heap_setCell _ _ _ _ (by show k ≠ b; omega))⟩⟩
/-- four cells of a row set anew -/
theorem RowsMix.name {w : World} {B C g c : Nat} {l : List RowD} (h : RowsMix w B C (.slice (some ⟨g, 0, none⟩) l.length c) l) (hCB : C ≤ B) {i : Nat} (hi : i < l.length) (u0 u1 u2 u3 : Int) :
    RowsMix (World.setCell (World.setCell (World.setCell (World.setCell w ⟨g, i * 6, none⟩ (.int .i64 u0)) ⟨g, i * 6 + 1, none⟩ (.int .i64 u1)) ⟨g, i * 6 + 2, none⟩ (.int .i64 u2)) ⟨g, i * 6 + 3, none⟩ (.int .i64 u3)) B C (.slice (some ⟨g, 0, none⟩) l.length c) (l.set i ⟨u0, u1, u2, u3, (l.getD i row0).coef, (l.getD i row0).most⟩) ∧
    (∀ w0, Below B w0 w → Below B w0 (World.setCell (World.setCell (World.setCell (World.setCell w ⟨g, i * 6, none⟩ (.int .i64 u0)) ⟨g, i * 6 + 1, none⟩ (.int .i64 u1)) ⟨g, i * 6 + 2, none⟩ (.int .i64 u2)) ⟨g, i * 6 + 3, none⟩ (.int .i64 u3))) := by
  obtain ⟨L, hO, hl, hs⟩ := h
  have hBg : B ≤ g := by
    rcases hO.form with ⟨e, -⟩ | ⟨g', c', cur, e, hb, -⟩
    · cases e
    · injection e with e1
      injection e1 with e2
      injection e2 with e3
      omega
  have hb : ∀ w0, Below B w0 w → Below B w0 (World.setCell (World.setCell (World.setCell (World.setCell w ⟨g, i * 6, none⟩ (.int .i64 u0)) ⟨g, i * 6 + 1, none⟩ (.int .i64 u1)) ⟨g, i * 6 + 2, none⟩ (.int .i64 u2)) ⟨g, i * 6 + 3, none⟩ (.int .i64 u3)) := fun w0 h => (((h.setCell (p := ⟨g, i * 6, none⟩) hBg _).setCell (p := ⟨g, i * 6 + 1, none⟩) hBg _).setCell (p := ⟨g, i * 6 + 2, none⟩) hBg _).setCell (p := ⟨g, i * 6 + 3, none⟩) hBg _
  refine ⟨?_, hb⟩
  obtain ⟨cv, e, hc⟩ := hs i hi
  rw [← hl] at hO
  have hi' : i < L.length := by omega
  have e1 : ∀ (x : List Value), (L.set i x).length = L.length := fun x => List.length_set
  have h0 := hO.set i 0 hi' (by omega) (.int .i64 u0)
  rw [← e1 ((L.getD i []).set 0 (.int .i64 u0))] at h0
  have h1 := h0.set i 1 (by rw [e1]; exact hi') (by omega) (.int .i64 u1)
  rw [getD_set_if _ _ _ _ _ hi', if_pos rfl, List.set_set, e1] at h1
  rw [← e1 (((L.getD i []).set 0 (.int .i64 u0)).set 1 (.int .i64 u1))] at h1
  have h2 := h1.set i 2 (by rw [e1]; exact hi') (by omega) (.int .i64 u2)
  rw [getD_set_if _ _ _ _ _ hi', if_pos rfl, List.set_set, e1] at h2
  rw [← e1 ((((L.getD i []).set 0 (.int .i64 u0)).set 1 (.int .i64 u1)).set 2 (.int .i64 u2))] at h2
  have h3 := h2.set i 3 (by rw [e1]; exact hi') (by omega) (.int .i64 u3)
  rw [getD_set_if _ _ _ _ _ hi', if_pos rfl, List.set_set, e1, hl] at h3
  refine ⟨_, h3, by rw [e1, List.length_set, hl], fun j hj => ?_⟩
  rw [List.length_set] at hj
  have hk : Keeps (rng 0 C w) (rng 0 C (World.setCell (World.setCell (World.setCell (World.setCell w ⟨g, i * 6, none⟩ (.int .i64 u0)) ⟨g, i * 6 + 1, none⟩ (.int .i64 u1)) ⟨g, i * 6 + 2, none⟩ (.int .i64 u2)) ⟨g, i * 6 + 3, none⟩ (.int .i64 u3))) :=
    keeps_rng_later fun k _ hk => (hb w (Below.refl _ _)).block k (by omega)
  rw [getD_set_if _ _ _ _ _ hi', getD_set_if _ _ _ _ _ hi]
  by_cases hji : j = i
  · rw [if_pos hji, if_pos hji, e]
    exact ⟨cv, rfl, hc.keeps hk⟩
  · rw [if_neg hji, if_neg hji]
    obtain ⟨cv', e', hc'⟩ := hs j hj
    exact ⟨cv', e', hc'.keeps hk⟩
theorem rowCells_one {r : RowD} {a : Option Addr} {n c : Nat} : ∀ u ∈ rowCells r (.slice a n c), u.oneCell' = true := cells6
end Go.Proofs.Ytppfdjjhloaopaa
namespace Go.Proofs.Ytppfdjjhloaopaa
open Go.RowKit

theorem step_app_recs2 {W : World} {ops : Array Oper} {o : Oper} {a : Act} {K : Act → World → Prop} {Q : Exit → Act → World → Prop} {E : Prop} {e t : TypeId} {k by_ : Nat} {z : Value}
    (hinfo : (Try.prog.info? e).map (fun i => (i.zero, i.size, i.bytes)) = some (some z, k, by_)) (hzk : z.cells.size = k) (hk : 0 < k) (hu : Try.prog.underlying t = some (.slice e)) (hgd : o.guard = none) (s x : Operand)
    (ho : o.op = .call { callee := .builtin .append, args := #[s, x], argTypes := #[t, t] }) (B : Nat) (v : Value) (L : List (List Value)) (hs : a.eval s = v) (hown : OwnR W B e k v L)
    (xa : Option Addr) (m c : Nat) (Lx : List (List Value)) (hm : m = Lx.length) (hx : a.eval x = .slice xa m c) (h6 : ∀ r ∈ Lx, r.length = k) (hone : ∀ u ∈ Lx.flatten, u.oneCell' = true)
    (hcells : ∀ b, xa = some b → ∀ j u, Lx.flatten[j]? = some u → W.cell? (b.add j) = some u) (hnone : xa = none → Lx = []) (hlen : (L.length + Lx.length) * by_ ≤ 140737488355328) (hlen2 : L.length + Lx.length < 1000000) (hB : B ≤ W.heap.size)
    (h : ∀ v' w', OwnR w' B e k v' (L ++ Lx) → W.grownBy w' v.ownBlock → K (a.put o.dst v') w') :
    if Region.wanted o (yielded ops a.tmps) = true then Oper.wp Try.prog o a W K Q else E := by
  subst hm
  have hw : Region.wanted o (yielded ops a.tmps) = true := by simp [Region.wanted, hgd]
  rw [if_pos hw]
  obtain ⟨i0, hi, hz0, hz1, hz2⟩ := info_parts hinfo
  cases xa with
  | none =>
    obtain rfl := hnone rfl
    have hrun := run_app_nil B t o.type e i0 k hu hi v L.length L.flatten hown.1 c
    have hx' : a.eval x = .slice none 0 c := hx
    unfold Oper.wp
    simp [execOp, ho, resolve, invoke, builtin, hs, hx', hrun, Result.andThen]
    exact h v W (by simpa using hown) (World.grownBy.refl W _)
  | some ad =>
    refine wp_append_own _ s x t ho B e i0 z k by_ hu hi hz0 hz1 hz2 hzk hk v L.length L.flatten hs hown.1 ad Lx.length c Lx.flatten hx (flat_len h6) (hcells ad rfl) hone (by unfold maxLen; omega) hlen hB ?_
    intro v' w' hown' hg _
    refine h v' w' ⟨by simpa using hown', fun r hr => ?_⟩ hg
    rcases List.mem_append.1 hr with h1 | h1
    · exact hown.2 r h1
    · exact h6 r h1
theorem Blk.grown {W w' : World} {b : Nat} {vs : List Value} {t : TypeId} {r : Option Nat} (h : Blk W b vs t) (hg : W.grownBy w' r) (hne : r ≠ some b) : Blk w' b vs t := (hg.block b h.lt (fun e => hne e.symm)).trans h
end Go.Proofs.Ytppfdjjhloaopaa
namespace Go.Proofs.Ytppfdjjhloaopaa
open Go.RowKit

theorem check_iff {p : ProgD} {rows : List RowD} {l : List StepD} (hV : validB p = true) (hl : l.length ≤ 8192) (h0 : 0 < l.length) {F : Nat} (hF : l.length ≤ F) :
    decide (checkF p rows l = -1) = refutesF rows l F 0 (decF p.vars.toNat 0 0) := by
  have e : checkF p rows l = wrongF rows l l.length 0 (List.replicate p.vars.toNat (-1)) := by
    unfold checkF; rw [hV, if_pos (by simp [hl]), if_neg (by omega)]
  rw [e, wrongF_fuel rows l l.length F 0 _ h0 (by omega) (by omega), ← decF_open]
  have := wrong_refutes rows l F 0 (decF p.vars.toNat 0 0) h0
  rw [show ((0 : Nat) : Int) = 0 from rfl] at this
  rw [this]
theorem check_parts {p : ProgD} {rows : List RowD} {l : List StepD} (h : checkF p rows l = -1) : validB p = true ∧ l.length ≤ 8192 ∧ 0 < l.length := by
  unfold checkF at h
  cases hV : validB p
  · rw [hV] at h; simp at h
  · rw [hV] at h
    by_cases hl : l.length ≤ 8192
    · refine ⟨rfl, hl, ?_⟩
      simp only [hl, decide_true, Bool.and_self, if_true] at h
      by_cases h0 : l.length = 0
      · rw [if_pos h0] at h; omega
      · omega
    · simp [hl] at h
theorem fits_none (n s : Nat) : Fits (decF n 0 0) s := fun k hk => by
  rw [decF_len] at hk
  rw [decF_get hk, if_neg (by omega)]; exact Or.inl (by decide)
theorem check_sound {p : ProgD} {rows : List RowD} {l : List StepD} (h : checkF p rows l = -1) (hr : ∀ r ∈ rows, r.coef.length = p.vars.toNat) (s : Nat) : ¬ (∀ r ∈ rows, keptB r s = true) := fun hk => by
  obtain ⟨hV, hl, h0⟩ := check_parts h
  have h1 := check_iff (rows := rows) hV hl h0 (Nat.le_refl _)
  rw [h, refutes_sound rows l p.vars.toNat s (fun r hr' => ⟨hr r hr', hk r hr'⟩) _ 0 _ (decF_len _ _ _) (fits_none _ _)] at h1
  simp at h1
theorem ref_sound {p : ProgD} {l : List StepD} (h : refB p l = true) (s : Nat) : keptAll p.rows s = false := by
  have h1 : wrongP p l = -1 := by unfold refB at h; simpa using h
  rw [← Bool.not_eq_true]
  intro hk
  exact check_sound h1 (rows_len (check_parts h1).1) s (fun r hr => List.all_eq_true.1 hk r hr)
theorem bounds_sound {p : ProgD} {l : List StepD} {g : Int} (h : boundsB p l g = true) (s : Nat) (hk : keptAll p.rows s = true) : chosenF p.gain s ≤ g := by
  unfold boundsB at h
  simp only [Bool.and_eq_true, decide_eq_true_eq] at h
  refine Decidable.byContradiction fun hn => ?_
  refine check_sound h.2 (with_len (check_parts h.2).1 g) s (fun r hr => ?_)
  rcases List.mem_append.1 hr with h1 | h1
  · exact List.all_eq_true.1 hk r h1
  · simp at h1; rw [h1]
    simp only [keptB, decide_eq_true_eq]
    show chosenF (p.gain.map fun x => -x) _ ≤ -(g + 1)
    rw [chosenF_neg]; omega
theorem proof_some (p : ProgD) : 0 < (growF (rowsF p) p.vars.toNat 0 0 0).length := by have := (growF_len (rowsF p) p.vars.toNat 0 0 0).1; omega
/-- the plain proof of a program holds -/
theorem own_check {p : ProgD} (hV : validB p = true) : checkF p (rowsF p) (solveF p).proof = -1 := by
  rw [solve_proof hV]
  have h := check_iff (rows := rowsF p) hV (proof_short hV) (proof_some p) (F := (growF (rowsF p) p.vars.toNat 0 0 0).length + p.vars.toNat + 1) (by omega)
  rw [proof_refutes hV _ (by omega)] at h
  simpa using h
theorem own_refutes {p : ProgD} (hV : validB p = true) (hf : (bestF p).found = false) : wrongP p (solveF p).proof = -1 ∧ refB p (solveF p).proof = true := by
  have h := own_check hV
  rw [rowsF_none hf] at h
  exact ⟨h, by unfold refB wrongP; rw [h]; rfl⟩
theorem own_bounds {p : ProgD} (hV : validB p = true) (hf : (bestF p).found = true) : boundsB p (solveF p).proof (bestF p).gain = true := by
  have h := own_check hV
  rw [rowsF_found hf] at h
  have hb := best_bd hV
  unfold boundsB
  rw [h]; simp [isInB, hb]
theorem best_kept {p : ProgD} (hV : validB p = true) (hf : (bestF p).found = true) : keptAll p.rows (bestF p).set = true ∧ (bestF p).gain = chosenF p.gain (bestF p).set := by
  obtain ⟨v0, -⟩ := valid_parts hV
  obtain ⟨-, h, h2, -⟩ := (bestF_spec (p := p) (n := p.vars.toNat) (by omega)).2 hf
  exact ⟨h, h2⟩
theorem lesser_not {p : ProgD} (hV : validB p = true) (hf : (bestF p).found = true) (l : List StepD) {g : Int} (hg : g < (bestF p).gain) : boundsB p l g = false := by
  rw [← Bool.not_eq_true]
  intro h
  obtain ⟨h1, h2⟩ := best_kept hV hf
  have := bounds_sound h _ h1
  omega
theorem found_not {p : ProgD} (hV : validB p = true) (hf : (bestF p).found = true) (l : List StepD) : refB p l = false := by
  rw [← Bool.not_eq_true]
  intro h
  have := ref_sound h (bestF p).set
  rw [(best_kept hV hf).1] at this; cases this
end Go.Proofs.Ytppfdjjhloaopaa
namespace Go.Proofs.Ytppfdjjhloaopaa
open Go.RowKit

theorem check_tight {p p' : ProgD} {rows rows' : List RowD} {l : List StepD} (h : checkF p rows l = -1) (ht : Tighter rows rows') (hV' : validB p' = true) (hn : p'.vars = p.vars) : checkF p' rows' l = -1 := by
  obtain ⟨hV, hl, h0⟩ := check_parts h
  have h1 := check_iff (rows := rows) hV hl h0 (Nat.le_refl _)
  rw [h] at h1
  have h2 := refutes_tight ht l _ _ _ h1.symm
  have h3 := check_iff (rows := rows') hV' hl h0 (Nat.le_refl _)
  rw [hn, h2] at h3
  simpa using h3
theorem chosK_le {l : List Int} {M : Int} (hM : 0 ≤ M) (h : ∀ c ∈ l, c ≤ M) (s : Nat) : ∀ k : Nat, chosK l s k ≤ M * k
  | 0 => by simp [chosK]
  | k + 1 => by
    have ih := chosK_le hM h s k
    have hc : l.getD k 0 ≤ M := by
      by_cases hk : k < l.length
      · exact h _ (getD_mem l k hk)
      · rw [List.getD_eq_getElem?_getD, List.getElem?_eq_none (by omega)]; exact hM
    have e : M * ((k + 1 : Nat) : Int) = M * k + M := by rw [Int.natCast_add, Int.mul_add]; simp
    rw [e]
    simp only [chosK]
    split <;> omega
theorem made_form2 (v : Int) (x : List Tri) (g : List Int) : ∃ (n : Nat) (rows : List RowD) (gain : List Int), madeF v x g = ⟨n, rows, gain⟩ ∧ n ≤ 8 ∧ rows.length ≤ 8 ∧ validB ⟨n, rows, gain⟩ = true ∧ (∀ c ∈ gain, c ≤ 31) ∧
    ∀ y, ∃ rows2 : List RowD, madeF v y g = ⟨n, rows2, gain⟩ ∧ rows2.length ≤ 8 ∧ validB ⟨n, rows2, gain⟩ = true := by
  refine ⟨mvars v, _, _, rfl, mvars_le v, by rw [mrows_len]; omega, made_valid v x g, fun c hc => ?_, fun y => ⟨_, rfl, by rw [mrows_len]; omega, made_valid v y g⟩⟩
  obtain ⟨k, -, rfl⟩ := List.mem_map.1 hc
  have := pickF_lt (g.getD k 0) (n := 40) (by decide)
  omega
theorem best_small {p : ProgD} (hV : validB p = true) (hg : ∀ c ∈ p.gain, c ≤ 31) : (bestF p).gain ≤ 1000 := by
  cases hf : (bestF p).found
  · have h := (bestF_spec (p := p) (n := p.vars.toNat) (by have := (valid_parts hV).1; omega)).1 hf
    rw [h.2.1]; omega
  · rw [(best_kept hV hf).2]
    have h1 := chosK_le (by decide) hg (bestF p).set p.gain.length
    have h2 : (p.gain.length : Int) ≤ 12 := by obtain ⟨-, h2, -, -, h3, -⟩ := valid_parts hV; rw [h3]; exact h2
    show chosK _ _ _ ≤ 1000
    omega
theorem more_bounds {p : ProgD} (hV : validB p = true) (hg : ∀ c ∈ p.gain, c ≤ 31) (hf : (bestF p).found = true) {d : Int} (h0 : 0 ≤ d) (h1 : d < 1000) : boundsB p (solveF p).proof ((bestF p).gain + d) = true := by
  have h := own_check hV
  rw [rowsF_found hf] at h
  have h2 := check_tight h (tight_goal p.rows p.gain (g := (bestF p).gain) (g' := (bestF p).gain + d) (by omega)) hV rfl
  have h3 := best_small hV hg
  have h4 := (best_bd hV).1
  unfold boundsB
  rw [h2]; simp [isInB]; omega
theorem app_valid {n : Nat} {rows rows2 : List RowD} {gain : List Int} (h1 : validB ⟨n, rows, gain⟩ = true) (h2 : validB ⟨n, rows2, gain⟩ = true) (hl : rows.length + rows2.length ≤ 300) : validB ⟨n, rows ++ rows2, gain⟩ = true := by
  simp only [validB, Bool.and_eq_true] at h1 h2 ⊢
  obtain ⟨⟨⟨⟨a1, a2⟩, a3⟩, a4⟩, a5⟩ := h1
  obtain ⟨⟨⟨⟨b1, b2⟩, b3⟩, b4⟩, b5⟩ := h2
  refine ⟨⟨⟨⟨a1, by simp only [fewB, decide_eq_true_eq, List.length_append]; omega⟩, ?_⟩, a4⟩, a5⟩
  show rowsB (rows ++ rows2) n = true
  unfold rowsB at a3 b3 ⊢
  rw [List.all_append]
  exact Bool.and_eq_true_iff.2 ⟨a3, b3⟩
theorem more_refutes {n : Nat} {rows rows2 : List RowD} {gain : List Int} {l : List StepD} (h1 : wrongP ⟨n, rows, gain⟩ l = -1) (hV : validB ⟨n, rows ++ rows2, gain⟩ = true) :
    refB ⟨n, rows ++ rows2, gain⟩ l = true ∧ usedP ⟨n, rows ++ rows2, gain⟩ l = usedP ⟨n, rows, gain⟩ l := by
  have h2 : wrongP ⟨n, rows ++ rows2, gain⟩ l = -1 := check_tight (p' := ⟨n, rows ++ rows2, gain⟩) h1 (tight_app rows rows2) hV rfl
  refine ⟨by unfold refB; rw [h2]; rfl, ?_⟩
  unfold usedP
  rw [h1, h2]
end Go.Proofs.Ytppfdjjhloaopaa
namespace Go.Proofs.Ytppfdjjhloaopaa
open Go.RowKit

/-- a program in a block of the call's own, W0's next one, of which the rows are yet to be stored -/
structure QG (W0 : World) (old : List Value) (d : Bool) (W : World) : Prop where
  hb : Below W0.heap.size W0 W
  hq : d = false → Blk W W0.heap.size old 27
  hs : W0.heap.size + 1 ≤ W.heap.size
theorem QG.step {W0 W W' : World} {old : List Value} {d : Bool} (h : QG W0 old d W) (hb : Below (W0.heap.size + 1) W W') : QG W0 old d W' :=
  ⟨h.hb.trans (hb.mono (by omega)), fun hd => (h.hq hd).below hb (by omega), Nat.le_trans h.hs hb.size⟩
theorem QG.put {W0 W : World} {old : List Value} (h : QG W0 old false W) (u : Value) (d : Bool) (hd : d = true) : QG W0 old d (W.setCell ⟨W0.heap.size, 1, none⟩ u) :=
  ⟨h.hb.setCell (p := ⟨W0.heap.size, 1, none⟩) (Nat.le_refl _) u, fun e => (by rw [hd] at e; cases e), by simpa [World.setCell] using h.hs⟩
theorem run_field_rows (a c : Value) (p : Option Addr) (n m : Nat) (w : World) : (Instr.field 27 (.agg #[a, .slice p n m, c]) 1).run Try.prog w = .ok (.slice p n m) w := by kernel_rfl
/-- rows of the call's own: copies of old ones, and of those that Made has made -/
def RowsTwo (W0 W : World) (v : Value) (rows rows2 : List RowD) : Prop :=
  ∃ Lz, OwnR W (W0.heap.size + 1) 67 6 v Lz ∧ Lz.length = rows.length + rows2.length ∧ (∀ i, i < rows.length → ∃ cv, Lz.getD i [] = rowCells (rows.getD i row0) cv ∧ IntsAt W0 cv (rows.getD i row0).coef) ∧
    (∀ i, i < rows2.length → ∃ cv, Lz.getD (rows.length + i) [] = rowCells (rows2.getD i row0) cv ∧ IntsIn (frmY 0 3 W) cv (rows2.getD i row0).coef)
theorem RowsTwo.later {W0 W W' : World} {v : Value} {rows rows2 : List RowD} (h : RowsTwo W0 W v rows rows2) (hb : Below W.heap.size W W') : RowsTwo W0 W' v rows rows2 := by
  obtain ⟨Lz, h1, h2, h3, h4⟩ := h
  exact ⟨Lz, h1.later' hb, h2, h3, fun i hi => let ⟨cv, e, hc⟩ := h4 i hi; ⟨cv, e, hc.keeps (keeps_frmY_below hb)⟩⟩
theorem RowsTwo.form {W0 W : World} {v : Value} {rows rows2 : List RowD} (h : RowsTwo W0 W v rows rows2) : ∃ a c, v = .slice a (rows.length + rows2.length) c := by
  obtain ⟨Lz, h1, h2, -⟩ := h
  exact own_form h1 h2
theorem RowsTwo.put {W0 W : World} {v : Value} {rows rows2 : List RowD} (h : RowsTwo W0 W v rows rows2) {vs : List Value} (hq : Blk W W0.heap.size vs 27) (u : Value) : RowsTwo W0 (W.setCell ⟨W0.heap.size, 1, none⟩ u) v rows rows2 := by
  obtain ⟨Lz, h1, h2, h3, h4⟩ := h
  exact ⟨Lz, ⟨ownsRow_setCell_below h1.1 (show W0.heap.size < W0.heap.size + 1 by omega) u, h1.2⟩, h2, h3, fun i hi => let ⟨cv, e, hc⟩ := h4 i hi; ⟨cv, e, hc.keeps (keeps_frmY_set hq (by decide) 1 u)⟩⟩
theorem RowsTwo.rows {W0 W : World} {v : Value} {rows rows2 : List RowD} (h : RowsTwo W0 W v rows rows2) (hb : Below W0.heap.size W0 W) : RowsAt W v (rows ++ rows2) := by
  obtain ⟨Lz, h1, h2, h3, h4⟩ := h
  refine h1.rows (by rw [h2, List.length_append]) fun i hi => ?_
  rcases Nat.lt_or_ge i rows.length with h5 | h5
  · obtain ⟨cv, e, hc⟩ := h3 i h5
    rw [getD_app_left _ _ _ _ h5]
    exact ⟨cv, e, hc.below hb⟩
  · rw [List.length_append] at hi
    obtain ⟨cv, e, hc⟩ := h4 (i - rows.length) (by omega)
    rw [Nat.add_sub_cancel' h5] at e
    rw [getD_app_right _ _ _ _ h5]
    exact ⟨cv, e, (hc.keeps (keeps_frmY _ _ _)).keeps (keeps_frm _ _)⟩
theorem frmY_grown {W W' : World} {B : Nat} {k : Nat} {v : Value} {L : List (List Value)} (hown : OwnR W B 67 k v L) (hg : W.grownBy W' v.ownBlock) (A : Nat) : Keeps (frmY A 3 W) (frmY A 3 W') := by
  refine keeps_frmY_later fun b hA hb ht => hg.block b hb fun he => ?_
  rcases hown.form with ⟨h2, -⟩ | ⟨g', c', cur, h2, h3, h4, -⟩
  · rw [h2] at he; cases he
  · rw [h2] at he; cases he
    unfold typ at ht
    rw [h4] at ht; simp at ht
theorem RowsTwo.made {W0 W W' : World} {v v' : Value} {rows rows2 : List RowD} {Lr L2 : List (List Value)} (hLr : Lr.length = rows.length) (hs : ∀ i, i < rows.length → ∃ cv, Lr.getD i [] = rowCells (rows.getD i row0) cv ∧ IntsAt W0 cv (rows.getD i row0).coef)
    (hO : OwnR W (W0.heap.size + 1) 67 6 v Lr) {A : Nat} (hL2 : L2.length = rows2.length) (h2 : ∀ i, i < rows2.length → ∃ cv, L2.getD i [] = rowCells (rows2.getD i row0) cv ∧ IntsIn (frmY A 3 W) cv (rows2.getD i row0).coef)
    (hO' : OwnR W' (W0.heap.size + 1) 67 6 v' (Lr ++ L2)) (hg : W.grownBy W' v.ownBlock) : RowsTwo W0 W' v' rows rows2 := by
  refine ⟨Lr ++ L2, hO', by rw [List.length_append, hLr, hL2], fun i hi => ?_, fun i hi => ?_⟩
  · obtain ⟨cv, e, hc⟩ := hs i hi
    rw [getD_app_left _ _ _ _ (by omega)]; exact ⟨cv, e, hc⟩
  · obtain ⟨cv, e, hc⟩ := h2 i hi
    rw [getD_app_right _ _ _ _ (by omega), hLr, Nat.add_sub_cancel_left]
    exact ⟨cv, e, (hc.keeps (frmY_grown hO hg A)).keeps (keeps_frmY_le _ _ (Nat.zero_le _))⟩
theorem own_empty {W : World} {b0 B k : Nat} {e : TypeId} (h : Blk W b0 [] e) (hB : B ≤ b0) : OwnR W B e k (.slice (some ⟨b0, 0, none⟩) 0 0) [] :=
  ⟨⟨by simp, .inr ⟨b0, 0, #[], rfl, hB, h, Nat.le_refl _, by unfold maxLen; omega, by simp, by simp⟩⟩, fun r hr => by cases hr⟩
theorem below_own2 {W w' : World} {B : Nat} {e : TypeId} {k : Nat} {v : Value} {L : List (List Value)} (hown : OwnR W B e k v L) (hB : B ≤ W.heap.size) (hg : W.grownBy w' v.ownBlock) : Below B W w' := below_own hown hB hg
theorem step_app_two {W : World} {ops : Array Oper} {o : Oper} {T : Array Value} {D : List Deferred} {K : Act → World → Prop} {Q : Exit → Act → World → Prop} {E : Prop} {e t : TypeId} {k by_ : Nat} {z : Value}
    (hinfo : (Try.prog.info? e).map (fun i => (i.zero, i.size, i.bytes)) = some (some z, k, by_)) (hzk : z.cells.size = k) (hk : 0 < k) (hu : Try.prog.underlying t = some (.slice e)) (hgd : o.guard = none) (s x : Operand)
    (ho : o.op = .call { callee := .builtin .append, args := #[s, x], argTypes := #[t, t] }) (B : Nat) (v : Value) (L : List (List Value)) (hs : Act.eval ⟨T, D⟩ s = v) (hown : OwnR W B e k v L)
    (xa : Option Addr) (m c : Nat) (Lx : List (List Value)) (hm : m = Lx.length) (hx : Act.eval ⟨T, D⟩ x = .slice xa m c) (h6 : ∀ r ∈ Lx, r.length = k) (hone : ∀ u ∈ Lx.flatten, u.oneCell' = true)
    (hcells : ∀ b, xa = some b → ∀ j u, Lx.flatten[j]? = some u → W.cell? (b.add j) = some u) (hnone : xa = none → Lx = []) (hlen : (L.length + Lx.length) * by_ ≤ 140737488355328) (hlen2 : L.length + Lx.length < 1000000) (hB : B ≤ W.heap.size)
    (h : ∀ v' w', OwnR w' B e k v' (L ++ Lx) → W.grownBy w' v.ownBlock → K (Act.put ⟨T, D⟩ o.dst v') w') :
    if Region.wanted o (yielded ops T) = true then Oper.wp Try.prog o ⟨T, D⟩ W K Q else E :=
  step_app_recs2 (a := ⟨T, D⟩) hinfo hzk hk hu hgd s x ho B v L hs hown xa m c Lx hm hx h6 hone hcells hnone hlen hlen2 hB h
/-- the cells of rows that Made has made, in the form that an append asks -/
theorem RowsOwn.list {w : World} {A B : Nat} {v : Value} {l : List RowD} (h : RowsOwn w A B v l) : ∃ L a c, v = .slice a l.length c ∧ L.length = l.length ∧ (∀ r ∈ L, r.length = 6) ∧ (∀ u ∈ L.flatten, u.oneCell' = true) ∧
    (∀ b, a = some b → ∀ j u, L.flatten[j]? = some u → w.cell? (b.add j) = some u) ∧ (a = none → L = []) ∧ (∀ i, i < l.length → ∃ cv, L.getD i [] = rowCells (l.getD i row0) cv ∧ IntsIn (frmY A 3 w) cv (l.getD i row0).coef) := by
  obtain ⟨L, hOR, hl, hs⟩ := h
  rcases hOR.form with ⟨rfl, e2⟩ | ⟨g, c, cur, rfl, e1, e2, e3, e4⟩
  · exact ⟨L, none, 0, by rw [← hl, e2]; rfl, hl, hOR.2, by rw [e2]; simp, fun b hb => (by cases hb), fun _ => e2, hs⟩
  · refine ⟨L, some ⟨g, 0, none⟩, c, by rw [hl], hl, hOR.2, fun u hu => ?_, fun b hb j u hj => ?_, fun h => (by cases h), hs⟩
    · obtain ⟨r, hr, hur⟩ := List.mem_flatten.1 hu
      obtain ⟨i, hi, rfl⟩ := List.getElem_of_mem hr
      obtain ⟨cv, e, hc⟩ := hs i (by omega)
      rw [List.getD_eq_getElem?_getD, List.getElem?_eq_getElem hi] at e
      obtain ⟨a', n', rfl, -⟩ := hc
      have e' : L[i] = _ := e
      rw [e'] at hur
      exact cells6 u hur
    · cases hb
      have hjl := (List.getElem?_eq_some_iff.1 hj).1
      rw [flat_len hOR.2] at hjl
      have e5 : j / 6 * 6 + j % 6 = j := by omega
      have hjd : j / 6 < L.length := by omega
      have h6 : (L.getD (j / 6) [])[j % 6]? = some u := by
        rw [← e5, flat_get hOR.2 _ _ (by omega)] at hj; exact hj
      have := hOR.cell (j / 6) (j % 6) hjd (by omega) h6
      rw [e5] at this
      by_cases h0 : j = 0
      · subst h0; simpa [Addr.add] using this
      · simpa [Addr.add, h0] using this
def Apart (u v : Value) : Prop := ∀ q, u.ownBlock = some q → v.ownBlock ≠ some q
theorem RowsOwn.blockLt {W : World} {A B : Nat} {v : Value} {l : List RowD} (h : RowsOwn W A B v l) {q : Nat} (hq : v.ownBlock = some q) : q < W.heap.size ∧ B ≤ q := by
  obtain ⟨L, hOR, -, -⟩ := h
  rcases hOR.form with ⟨rfl, -⟩ | ⟨g, c, cur, rfl, e1, e2, -⟩
  · cases hq
  · cases hq; exact ⟨(Array.getElem?_eq_some_iff.1 e2).1, e1⟩
theorem RowsOwn.grown {W W' : World} {A B b0 : Nat} {v : Value} {l : List RowD} (h : RowsOwn W A B v l) (h0 : Blk W b0 [] 67) (hg : W.grownBy W' (some b0)) (ha : v.ownBlock ≠ some b0) : RowsOwn W' A B v l := by
  obtain ⟨L, h1, h2, h3⟩ := h
  have hk : Keeps (frmY A 3 W) (frmY A 3 W') := keeps_frmY_later fun b hA hb ht => hg.block b hb fun he => by
    have he' := Option.some.inj he
    rw [he'] at ht
    unfold typ at ht
    rw [show W.heap[b0]? = _ from h0] at ht; simp at ht
  refine ⟨L, ⟨⟨h1.1.1, h1.1.2.imp id ?_⟩, h1.2⟩, h2, fun i hi => let ⟨cv, e, hc⟩ := h3 i hi; ⟨cv, e, hc.keeps hk⟩⟩
  rintro ⟨g, cap, cur, e1, e2, e3, e4⟩
  refine ⟨g, cap, cur, e1, e2, (hg.block g (Array.getElem?_eq_some_iff.1 e3).1 fun he => ha (by rw [e1]; exact he)).trans e3, e4⟩
end Go.Proofs.Ytppfdjjhloaopaa
