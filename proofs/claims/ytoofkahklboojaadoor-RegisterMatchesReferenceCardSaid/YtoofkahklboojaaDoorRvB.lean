/- Register, in plain words: a survey with something changed. No condition. Appends of many records to an own slice, with all that they leave as it was. No condition. Register: the walk of Bent. Conditions: how the survey lies in memory; at most 100 points, the last number below the greatest integer. -/
import Derived.Test.YtoofkahklboojaaDoorRkC
import Derived.Test.YtoofkahklboojaaDoorEffK
import Derived.Laws.AppendOwnNone
import Derived.Test.YtoofkahklboojaaDoorRkM
namespace Go.Proofs.YtoofkahklboojaaDoor

def bentD (l : List DotD) (how n at_ : Int) : List DotD :=
  if l.length = 0 then [⟨n, 0, 0, 0⟩] else
  let k := (pickR at_ l.length).toNat
  if pickR how 5 = 0 then l.set k { l.getD k dot0 with id := n }
  else if pickR how 5 = 1 then l.set k { l.getD k dot0 with x := n }
  else if pickR how 5 = 2 then l.set k { l.getD k dot0 with y := n }
  else if pickR how 5 = 3 then l.set k { l.getD k dot0 with tol := n }
  else l ++ [⟨(l.getD (l.length - 1) dot0).id + 1, n, 0, 0⟩]
end Go.Proofs.YtoofkahklboojaaDoor
namespace Go.Proofs.YtoofkahklboojaaDoor
open Go.RowKit

theorem run_app_nilK {w : World} (base : Nat) (t ty e : TypeId) (i : TypeInfo) (size : Nat) (ht : Tryd.prog.underlying t = some (.slice e)) (hi : Tryd.prog.info? e = some i)
    (v : Value) (n : Nat) (xs : List Value) (hown : w.ownsRow base e size v n xs) (c : Nat) : (Builtin.append_ #[t, t] ty #[v, .slice none 0 c]).run Tryd.prog w = .ok v w := by
  rcases hown.2 with ⟨rfl, rfl⟩ | ⟨g, cap, cur, rfl, _, _, hnc, _⟩
  · simp [Builtin.append_, run_underlying ht, sizeOf, typeInfo, hi, Builtin.lenOf, Builtin.firstCells]
  · simp [Builtin.append_, run_underlying ht, sizeOf, typeInfo, hi, Builtin.lenOf, Builtin.firstCells, hnc, storeCells]
theorem app_recsE {w : World} {ops : Array Oper} {rest : List Oper} {o : Oper} {a : Act} {Q : Exit → Act → World → Prop} {e t : TypeId} {k by_ : Nat} {z : Value}
    (hinfo : (Tryd.prog.info? e).map (fun i => (i.zero, i.size, i.bytes)) = some (some z, k, by_)) (hzk : z.cells.size = k) (hk : 0 < k) (hu : Tryd.prog.underlying t = some (.slice e)) (hgd : o.guard = none) (s x : Operand)
    (ho : o.op = .call { callee := .builtin .append, args := #[s, x], argTypes := #[t, t] }) (B : Nat) (v : Value) (L : List (List Value)) (hs : a.eval s = v) (hown : OwnR w B e k v L)
    (xa : Option Addr) (m c : Nat) (Lx : List (List Value)) (hm : m = Lx.length) (hx : a.eval x = .slice xa m c) (h6 : ∀ r ∈ Lx, r.length = k) (hone : ∀ u ∈ Lx.flatten, u.oneCell' = true)
    (hcells : ∀ b, xa = some b → ∀ j u, Lx.flatten[j]? = some u → w.cell? (b.add j) = some u) (hnone : xa = none → Lx = []) (hlen : (L.length + Lx.length) * by_ ≤ 140737488355328) (hlen2 : L.length + Lx.length < 1000000) (hB : B ≤ w.heap.size)
    (h : ∀ v' w', OwnR w' B e k v' (L ++ Lx) → Eff (fun k => some k = v.ownBlock) w w' → (v'.ownBlock = v.ownBlock ∨ ∀ g, v'.ownBlock = some g → w.heap.size ≤ g) → wpList Tryd.prog ops Q rest (a.put o.dst v') w') :
    wpList Tryd.prog ops Q (o :: rest) a w := by
  subst hm
  obtain ⟨i0, hi, hz0, hz1, hz2⟩ := info_parts hinfo
  refine wpList_plain hgd fun K hK => ?_
  unfold Oper.wp execOp
  cases xa with
  | none =>
    obtain rfl := hnone rfl
    have hrun := run_app_nilK B t o.type e i0 k hu hi v L.length L.flatten hown.1 c
    have hx' : a.eval x = .slice none 0 c := hx
    simp only [ho, resolve, invoke, builtin, Sem.run_bind, Sem.run_pure, Result.andThen_ok, List.map_toArray, List.map_cons, List.map_nil, hs, hx', hrun]
    exact hK _ _ (h v w (by simpa using hown) (Eff.of_below (Below.refl _ _) _) (.inl rfl))
  | some ad =>
    obtain ⟨v', w', hrun, h2, h3, -, h5⟩ := run_append_own_at (P := Tryd.prog) w B t o.type e i0 z k by_ hu hi hz0 hz1 hz2 hzk hk v L.length L.flatten hown.1
      ad Lx.length c Lx.flatten (flat_len h6) (hcells ad rfl) hone (by unfold maxLen; omega) hlen hB
    simp only [ho, resolve, invoke, builtin, Sem.run_bind, Sem.run_pure, Result.andThen_ok, List.map_toArray, List.map_cons, List.map_nil, hs, hx, hrun]
    refine hK _ _ (h v' w' ⟨by simpa using h2, fun q hq => ?_⟩ ⟨h3.os, h3.tape, h3.output, h3.size, fun b hb hn => h3.block b hb hn⟩ (h5.imp id fun e g hg => by rw [e] at hg; cases hg; simp))
    rcases List.mem_append.1 hq with h2 | h2
    · exact hown.2 q h2
    · exact h6 q h2
theorem lit_recsK (w : World) (e : TypeId) (k : Nat) {B : Nat} (hB : B ≤ w.heap.size) : OwnR (w.alloc (.cells #[] e)) B e k (.slice (some ⟨w.heap.size, 0, none⟩) 0 0) [] :=
  ⟨World.ownsRow_lit w #[] 0 hB (by unfold maxLen; omega) (by simp), fun r hr => by cases hr⟩
end Go.Proofs.YtoofkahklboojaaDoor
namespace Go.Proofs.YtoofkahklboojaaDoor
open Go.RowKit

theorem map_set' {α β : Type} (f : α → β) (l : List α) (k : Nat) (x : α) : (l.set k x).map f = (l.map f).set k (f x) := by rw [List.map_set]
theorem RecIn.flat {α : Type} {f : α → List Value} {d : α} {k : Nat} {c : Rd} {l : List α} {a : Option Addr} {m n : Nat} (hk : ∀ x, (f x).length = k) (h0 : 0 < k) {v : Value} (h : RecIn f d k c v l) (hv : v = .slice a m n) :
    (∀ b, a = some b → ∀ j u, (l.map f).flatten[j]? = some u → c (b.add j) = some u) ∧ (a = none → l = []) := by
  subst hv
  obtain ⟨a', n', h1, h2, h3, h4⟩ := h
  cases h1
  have hL : ∀ r ∈ l.map f, r.length = k := by
    intro r hr
    obtain ⟨x, -, rfl⟩ := List.mem_map.1 hr
    exact hk x
  refine ⟨fun b hb j u hu => ?_, fun ha => ?_⟩
  · have hj : j < (l.map f).flatten.length := (List.getElem?_eq_some_iff.1 hu).1
    rw [flat_len hL, List.length_map] at hj
    have hi : j / k < l.length := Nat.div_lt_of_lt_mul (by rw [Nat.mul_comm]; exact hj)
    obtain ⟨b', o', e, hc⟩ := h4 (j / k) hi
    rw [hb] at e
    obtain rfl := Option.some.inj e
    have hg := flat_get hL (j / k) (j % k) (Nat.mod_lt _ h0)
    rw [show j / k * k + j % k = j by rw [Nat.mul_comm]; exact Nat.div_add_mod j k] at hg
    rw [hg] at hu
    have hi' : (l.map f).getD (j / k) [] = f (l.getD (j / k) d) := by
      rw [List.getD_eq_getElem?_getD, List.getElem?_map, List.getElem?_eq_getElem hi, List.getD_eq_getElem?_getD, List.getElem?_eq_getElem hi]; rfl
    rw [hi'] at hu
    have := hc (j % k) u hu
    rw [show o' + j / k * k + j % k = o' + j by rw [Nat.add_assoc, Nat.mul_comm, Nat.div_add_mod]] at this
    rw [← this]
    cases j <;> simp [Addr.add]
  · cases l with
    | nil => rfl
    | cons x t =>
      obtain ⟨b, o, e, -⟩ := h4 0 (by simp)
      rw [ha] at e; cases e
theorem own_pos {α : Type} {f : α → List Value} {w : World} {B k : Nat} {e : TypeId} {v : Value} {l : List α} (h : OwnR w B e k v (l.map f)) (hl : ¬ l.length = 0) : ∃ g c, v = .slice (some ⟨g, 0, none⟩) l.length c ∧ B ≤ g := by
  rcases h.form with ⟨-, e2⟩ | ⟨g, c, cur, rfl, e1, -⟩
  · exact absurd (by simpa using e2) (fun e : l = [] => hl (by rw [e]; rfl))
  · exact ⟨g, c, by rw [List.length_map], e1⟩
theorem own_any {α : Type} {f : α → List Value} {w : World} {B k : Nat} {e : TypeId} {v : Value} {l : List α} (h : OwnR w B e k v (l.map f)) : ∃ a c, v = .slice a l.length c := by
  rcases h.form with ⟨rfl, e2⟩ | ⟨g, c, cur, rfl, e1, -⟩
  · have e2' : l = [] := by simpa using e2
    exact ⟨none, 0, by rw [e2']; rfl⟩
  · exact ⟨_, c, by rw [List.length_map]⟩
theorem lit_below {w w1 : World} {e : TypeId} (hE : Eff (fun k => some k = (Value.slice (some ⟨w.heap.size, 0, none⟩) 0 0).ownBlock) (w.alloc (.cells #[] e)) w1) : Below w.heap.size w w1 :=
  (bal w (.cells #[] e)).trans (hE.below (by simp) (fun k hk => by cases hk; exact Nat.le_refl _))
theorem getD_dot {l : List DotD} {k : Nat} (hk : k < l.length) : (l.map dotC).getD k [] = dotC (l.getD k dot0) := by
  rw [List.getD_eq_getElem?_getD, List.getElem?_map, List.getElem?_eq_getElem hk, List.getD_eq_getElem?_getD, List.getElem?_eq_getElem hk]; rfl
theorem own_one (w : World) {B : Nat} (hB : B ≤ w.heap.size) (p : DotD) : OwnR (w.alloc (.cells #[iV p.id, iV p.x, iV p.y, iV p.tol] 53)) B 53 4 (.slice (some ⟨w.heap.size, 0, none⟩) 1 1) ([p].map dotC) :=
  ⟨World.ownsRow_lit w #[iV p.id, iV p.x, iV p.y, iV p.tol] 1 hB (by unfold maxLen; omega) (by simp), fun r hr => by simp at hr; rw [hr]; rfl⟩
set_option maxRecDepth 100000 in
set_option maxHeartbeats 2000000 in
theorem bent_any (l : List DotD) (how n at_ : Int) (v : Value) (w : World) (hv : DotsAt w v l) (k1 : i64B how) (k2 : i64B at_) (hl : l.length ≤ 100) (hid : -9223372036854775808 ≤ (l.getD (l.length - 1) dot0).id ∧ (l.getD (l.length - 1) dot0).id < 9223372036854775807) :
    Calls Tryd.prog 13 #[v, iV how, iV n, iV at_] w (RetM (fun c u => DotsIn c u (bentD l how n at_)) w) := by
  obtain ⟨a, c, rfl, hc1, hc2, hcells⟩ := id hv
  have HL : Hid (((l.map dotC)).length = l.length) := hide (by simp)
  have HX := hide (RecIn.flat (k := 4) (f := dotC) (fun _ => rfl) (by decide) hv rfl)
  have HX1 := hide (fun (b : Addr) hb (j : Nat) (u : Value) hu => keep (bal w (.cells #[] 53)) (HX.out.1 b hb j u hu))
  have HXONE : Hid (∀ u ∈ (l.map dotC).flatten, u.oneCell' = true) := hide (by
    intro u hu
    obtain ⟨r, hr, hur⟩ := List.mem_flatten.1 hu
    obtain ⟨x, -, rfl⟩ := List.mem_map.1 hr
    exact kindDot.one x u hur)
  have HXN : Hid (a = none → l.map dotC = []) := hide (fun h => by rw [HX.out.2 h]; rfl)
  by_cases hl0 : l.length = 0
  · have HF : Hid (bentD l how n at_ = [⟨n, 0, 0, 0⟩]) := hide (by unfold bentD; rw [if_pos hl0])
    go_enter Tryd.func13, Tryd.ntmps13
    go_wp2_with (at_builtin; refine app_recsE infoDot rfl (by decide) Tryd.underlying30 rfl _ _ rfl w.heap.size _ _ rfl (lit_recsK w _ 4 (Nat.le_refl _)) a l.length c (l.map dotC) (by simp) rfl (by intro r hr; obtain ⟨x, -, rfl⟩ := List.mem_map.1 hr; rfl) (HXONE.out) (fun b hb j u hu => (HX1.out b hb j u hu)) HXN.out (by simp; omega) (by simp; omega) (by simp) ?_; intro v1 w1 ho1 hE1 hob1; have ho : OwnR w1 w.heap.size 53 4 v1 (l.map dotC) := ho1; have hb1 := lit_below hE1; clear ho1 hE1 hob1; obtain ⟨a1, c1, rfl⟩ := own_any ho; rw [hl0])
    go_ret
    exact ⟨_, rfl, by rw [HF.out]; exact RecIn.of_own (own_one w1 hb1.size ⟨n, 0, 0, 0⟩) (fun _ => rfl) (Nat.le_refl _), below2 hb1 (bal w1 _)⟩
  · have hk := pickR_in at_ (n := l.length) (by omega)
    have hz : ((l.length : Int) == 0) = false := by simpa using hl0
    have HP := hide (fun (W : World) => pickr_any at_ l.length W k2 (by omega) (by omega))
    have HQ := hide (fun (W : World) => pickr_any how 5 W k1 (by decide) (by decide))
    have hq := pickR_in how (n := 5) (by decide)
    have HF : Hid (bentD l how n at_ = (let k := (pickR at_ l.length).toNat
      if pickR how 5 = 0 then l.set k { l.getD k dot0 with id := n }
      else if pickR how 5 = 1 then l.set k { l.getD k dot0 with x := n }
      else if pickR how 5 = 2 then l.set k { l.getD k dot0 with y := n }
      else if pickR how 5 = 3 then l.set k { l.getD k dot0 with tol := n }
      else l ++ [⟨(l.getD (l.length - 1) dot0).id + 1, n, 0, 0⟩])) := hide (by unfold bentD; rw [if_neg hl0])
    generalize bentD l how n at_ = R at *
    obtain ⟨kk, hkk⟩ : ∃ kk : Nat, pickR at_ l.length = kk := ⟨(pickR at_ l.length).toNat, by omega⟩
    rw [hkk] at HP HF hk
    generalize pickR how 5 = q at *
    have hkl : kk < l.length := by omega
    have hkd : decide (kk < l.length) = true := by simpa using hkl
    obtain ⟨q1, q2⟩ := hq
    clear hk hkk
    go_enter Tryd.func13, Tryd.ntmps13
    go_wp2_with (at_builtin; refine app_recsE infoDot rfl (by decide) Tryd.underlying30 rfl _ _ rfl w.heap.size _ _ rfl (lit_recsK w _ 4 (Nat.le_refl _)) a l.length c (l.map dotC) (by simp) rfl (by intro r hr; obtain ⟨x, -, rfl⟩ := List.mem_map.1 hr; rfl) (HXONE.out) (fun b hb j u hu => (HX1.out b hb j u hu)) HXN.out (by simp; omega) (by simp; omega) (by simp) ?_; intro v1 w1 ho1 hE1 hob1; have ho : OwnR w1 w.heap.size 53 4 v1 (l.map dotC) := ho1; have hb1 := lit_below hE1; clear ho1 hE1 hob1; obtain ⟨g, c1, rfl, hg⟩ := own_pos ho hl0)
    refine (HP.out _).mono ?_
    rintro e w2 ⟨rfl, hb2⟩
    go_wp2_with fail
    refine (HQ.out _).mono ?_
    rintro e w3 ⟨rfl, hb23⟩
    have hb3 := below2 hb2 hb23
    rcases (by omega : q = 0 ∨ q = 1 ∨ q = 2 ∨ q = 3 ∨ q = 4) with rfl | rfl | rfl | rfl | rfl
    · skip
      have ho3 : OwnR w3 w.heap.size 53 4 (.slice (some ⟨g, 0, none⟩) (l.map dotC).length c1) (l.map dotC) := by rw [HL.out]; exact ho.later' hb3
      have hset := ho3.set kk 0 (by rw [HL.out]; exact hkl) (by decide) (iV n)
      have hms : (l.map dotC).set kk (((l.map dotC).getD kk []).set 0 (iV n)) = (l.set kk { l.getD kk dot0 with id := n }).map dotC := by rw [map_set', getD_dot hkl]; rfl
      rw [hms] at hset
      have hb4 : Below w.heap.size w (w3.setCell ⟨g, kk * 4, none⟩ (iV n)) := (below2 hb1 hb3).setCell (p := ⟨g, kk * 4, none⟩) hg _
      have HS : Hid (DotsIn (frm w.heap.size (w3.setCell ⟨g, kk * 4, none⟩ (iV n))) (.slice (some ⟨g, 0, none⟩) l.length c1) R) := hide (by rw [HF.out]; have := RecIn.of_own (f := dotC) (d := dot0) (B' := w.heap.size) hset (fun _ => rfl) (Nat.le_refl _); rw [HL.out] at this; exact this)
      have e0 : w3.frozen? ⟨g, kk * 4, none⟩ = false := ho3.frozen (kk * 4 + 0)
      have c0 : w3.cell? ⟨g, kk * 4, none⟩ = some (iV (l.getD kk dot0).id) := ho3.cell kk 0 (by rw [HL.out]; exact hkl) (by decide) (by rw [getD_dot hkl]; rfl)
      clear hset hms ho3 ho
      go_wp2_with fail
      go_ret
      exact ⟨_, rfl, HS.out, hb4⟩
    · skip
      have ho3 : OwnR w3 w.heap.size 53 4 (.slice (some ⟨g, 0, none⟩) (l.map dotC).length c1) (l.map dotC) := by rw [HL.out]; exact ho.later' hb3
      have hset := ho3.set kk 1 (by rw [HL.out]; exact hkl) (by decide) (iV n)
      have hms : (l.map dotC).set kk (((l.map dotC).getD kk []).set 1 (iV n)) = (l.set kk { l.getD kk dot0 with x := n }).map dotC := by rw [map_set', getD_dot hkl]; rfl
      rw [hms] at hset
      have hb4 : Below w.heap.size w (w3.setCell ⟨g, kk * 4 + 1, none⟩ (iV n)) := (below2 hb1 hb3).setCell (p := ⟨g, kk * 4 + 1, none⟩) hg _
      have HS : Hid (DotsIn (frm w.heap.size (w3.setCell ⟨g, kk * 4 + 1, none⟩ (iV n))) (.slice (some ⟨g, 0, none⟩) l.length c1) R) := hide (by rw [HF.out]; have := RecIn.of_own (f := dotC) (d := dot0) (B' := w.heap.size) hset (fun _ => rfl) (Nat.le_refl _); rw [HL.out] at this; exact this)
      have e0 : w3.frozen? ⟨g, kk * 4 + 1, none⟩ = false := ho3.frozen (kk * 4 + 1)
      have c0 : w3.cell? ⟨g, kk * 4 + 1, none⟩ = some (iV (l.getD kk dot0).x) := ho3.cell kk 1 (by rw [HL.out]; exact hkl) (by decide) (by rw [getD_dot hkl]; rfl)
      clear hset hms ho3 ho
      go_wp2_with fail
      go_ret
      exact ⟨_, rfl, HS.out, hb4⟩
    · skip
      have ho3 : OwnR w3 w.heap.size 53 4 (.slice (some ⟨g, 0, none⟩) (l.map dotC).length c1) (l.map dotC) := by rw [HL.out]; exact ho.later' hb3
      have hset := ho3.set kk 2 (by rw [HL.out]; exact hkl) (by decide) (iV n)
      have hms : (l.map dotC).set kk (((l.map dotC).getD kk []).set 2 (iV n)) = (l.set kk { l.getD kk dot0 with y := n }).map dotC := by rw [map_set', getD_dot hkl]; rfl
      rw [hms] at hset
      have hb4 : Below w.heap.size w (w3.setCell ⟨g, kk * 4 + 2, none⟩ (iV n)) := (below2 hb1 hb3).setCell (p := ⟨g, kk * 4 + 2, none⟩) hg _
      have HS : Hid (DotsIn (frm w.heap.size (w3.setCell ⟨g, kk * 4 + 2, none⟩ (iV n))) (.slice (some ⟨g, 0, none⟩) l.length c1) R) := hide (by rw [HF.out]; have := RecIn.of_own (f := dotC) (d := dot0) (B' := w.heap.size) hset (fun _ => rfl) (Nat.le_refl _); rw [HL.out] at this; exact this)
      have e0 : w3.frozen? ⟨g, kk * 4 + 2, none⟩ = false := ho3.frozen (kk * 4 + 2)
      have c0 : w3.cell? ⟨g, kk * 4 + 2, none⟩ = some (iV (l.getD kk dot0).y) := ho3.cell kk 2 (by rw [HL.out]; exact hkl) (by decide) (by rw [getD_dot hkl]; rfl)
      clear hset hms ho3 ho
      go_wp2_with fail
      go_ret
      exact ⟨_, rfl, HS.out, hb4⟩
    · skip
      have ho3 : OwnR w3 w.heap.size 53 4 (.slice (some ⟨g, 0, none⟩) (l.map dotC).length c1) (l.map dotC) := by rw [HL.out]; exact ho.later' hb3
      have hset := ho3.set kk 3 (by rw [HL.out]; exact hkl) (by decide) (iV n)
      have hms : (l.map dotC).set kk (((l.map dotC).getD kk []).set 3 (iV n)) = (l.set kk { l.getD kk dot0 with tol := n }).map dotC := by rw [map_set', getD_dot hkl]; rfl
      rw [hms] at hset
      have hb4 : Below w.heap.size w (w3.setCell ⟨g, kk * 4 + 3, none⟩ (iV n)) := (below2 hb1 hb3).setCell (p := ⟨g, kk * 4 + 3, none⟩) hg _
      have HS : Hid (DotsIn (frm w.heap.size (w3.setCell ⟨g, kk * 4 + 3, none⟩ (iV n))) (.slice (some ⟨g, 0, none⟩) l.length c1) R) := hide (by rw [HF.out]; have := RecIn.of_own (f := dotC) (d := dot0) (B' := w.heap.size) hset (fun _ => rfl) (Nat.le_refl _); rw [HL.out] at this; exact this)
      have e0 : w3.frozen? ⟨g, kk * 4 + 3, none⟩ = false := ho3.frozen (kk * 4 + 3)
      have c0 : w3.cell? ⟨g, kk * 4 + 3, none⟩ = some (iV (l.getD kk dot0).tol) := ho3.cell kk 3 (by rw [HL.out]; exact hkl) (by decide) (by rw [getD_dot hkl]; rfl)
      clear hset hms ho3 ho
      go_wp2_with fail
      go_ret
      exact ⟨_, rfl, HS.out, hb4⟩
    · have ho3 := ho.later' hb3
      have hlt : l.length - 1 < l.length := by omega
      have c0 : w3.cell? ⟨g, (l.length - 1) * 4, none⟩ = some (iV (l.getD (l.length - 1) dot0).id) := (show OwnR w3 w.heap.size 53 4 (.slice (some ⟨g, 0, none⟩) (l.map dotC).length c1) (l.map dotC) by rw [HL.out]; exact ho3).cell (l.length - 1) 0 (by rw [HL.out]; exact hlt) (by decide) (by rw [getD_dot hlt]; rfl)
      have u1 : IntKind.i64.wrap ((l.length : Int) - 1) = ((l.length - 1 : Nat) : Int) := by rw [IntWalk.i64_in _ (by omega)]; omega
      have hld : decide (l.length - 1 < l.length) = true := by simpa using hlt
      obtain ⟨hid1, hid2⟩ := hid
      generalize (l.getD (l.length - 1) dot0).id = ID at *
      have u2 : IntKind.i64.wrap (ID + 1) = ID + 1 := IntWalk.i64_in _ (by omega)
      generalize l.length - 1 = LL at *
      go_wp2_with (at_builtin; refine app_recE infoDot rfl (by decide) Tryd.underlying30 rfl _ _ rfl w.heap.size _ _ rfl ho3 (dotC ⟨ID + 1, n, 0, 0⟩) rfl (kindDot.one ⟨ID + 1, n, 0, 0⟩) _ rfl rfl (by simp; omega) (by simp; omega) (below2 hb1 hb3).size ?_; intro v7 w7 ho7 hE7 hob7)
      go_ret
      have ho8 : OwnR w7 w.heap.size 53 4 v7 ((l ++ [(⟨ID + 1, n, 0, 0⟩ : DotD)]).map dotC) := by rw [List.map_append]; exact ho7
      have HS : DotsIn (frm w.heap.size w7) v7 R := by rw [HF.out]; exact RecIn.of_own ho8 (fun _ => rfl) (Nat.le_refl _)
      exact ⟨_, rfl, HS, (below2 hb1 hb3).trans (hE7.below (below2 hb1 hb3).size (fun k hk => by cases hk; exact hg))⟩
end Go.Proofs.YtoofkahklboojaaDoor
