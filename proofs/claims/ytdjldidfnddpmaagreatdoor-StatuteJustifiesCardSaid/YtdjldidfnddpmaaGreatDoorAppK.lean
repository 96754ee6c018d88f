/- Appends of many records to an own slice, with all that they leave as it was. No condition. -/
import Derived.Test.YtdjldidfnddpmaaGreatDoorEffK
import Derived.Laws.AppendOwnNone
namespace Go.Proofs.YtdjldidfnddpmaaGreatDoor
open Go.RowKit

theorem run_app_nilK {w : World} (base : Nat) (t ty e : TypeId) (i : TypeInfo) (size : Nat) (ht : Tryz.prog.underlying t = some (.slice e)) (hi : Tryz.prog.info? e = some i)
    (v : Value) (n : Nat) (xs : List Value) (hown : w.ownsRow base e size v n xs) (c : Nat) : (Builtin.append_ #[t, t] ty #[v, .slice none 0 c]).run Tryz.prog w = .ok v w := by
  rcases hown.2 with ⟨rfl, rfl⟩ | ⟨g, cap, cur, rfl, _, _, hnc, _⟩
  · simp [Builtin.append_, run_underlying ht, sizeOf, typeInfo, hi, Builtin.lenOf, Builtin.firstCells]
  · simp [Builtin.append_, run_underlying ht, sizeOf, typeInfo, hi, Builtin.lenOf, Builtin.firstCells, hnc, storeCells]
theorem app_recsE {w : World} {ops : Array Oper} {rest : List Oper} {o : Oper} {a : Act} {Q : Exit → Act → World → Prop} {e t : TypeId} {k by_ : Nat} {z : Value}
    (hinfo : (Tryz.prog.info? e).map (fun i => (i.zero, i.size, i.bytes)) = some (some z, k, by_)) (hzk : z.cells.size = k) (hk : 0 < k) (hu : Tryz.prog.underlying t = some (.slice e)) (hgd : o.guard = none) (s x : Operand)
    (ho : o.op = .call { callee := .builtin .append, args := #[s, x], argTypes := #[t, t] }) (B : Nat) (v : Value) (L : List (List Value)) (hs : a.eval s = v) (hown : OwnR w B e k v L)
    (xa : Option Addr) (m c : Nat) (Lx : List (List Value)) (hm : m = Lx.length) (hx : a.eval x = .slice xa m c) (h6 : ∀ r ∈ Lx, r.length = k) (hone : ∀ u ∈ Lx.flatten, u.oneCell' = true)
    (hcells : ∀ b, xa = some b → ∀ j u, Lx.flatten[j]? = some u → w.cell? (b.add j) = some u) (hnone : xa = none → Lx = []) (hlen : (L.length + Lx.length) * by_ ≤ 140737488355328) (hlen2 : L.length + Lx.length < 1000000) (hB : B ≤ w.heap.size)
    (h : ∀ v' w', OwnR w' B e k v' (L ++ Lx) → Eff (fun k => some k = v.ownBlock) w w' → (v'.ownBlock = v.ownBlock ∨ ∀ g, v'.ownBlock = some g → w.heap.size ≤ g) → wpList Tryz.prog ops Q rest (a.put o.dst v') w') :
    wpList Tryz.prog ops Q (o :: rest) a w := by
  subst hm
  obtain ⟨i0, hi, hz0, hz1, hz2⟩ := info_parts hinfo
  refine wpList_plain hgd fun K hK => ?_
  unfold Oper.wp execOp
  cases xa with
  | none =>
    obtain rfl := hnone rfl
    have hrun := run_app_nilK B t o.type e i0 k hu hi v L.length L.flatten hown.1 c
    have hx' : a.eval x = .slice none 0 c := hx
    simp only [ho, resolve, invoke, builtin, Sem.run_bind, Sem.run_pure, Result.andThen_ok, List.map_toArray, List.map_cons, List.map_nil, hs, hx', hrun]
    exact hK _ _ (h v w (by simpa using hown) (Eff.of_below (Below.refl _ _) _) (.inl rfl))
  | some ad =>
    obtain ⟨v', w', hrun, h2, h3, -, h5⟩ := run_append_own_at (P := Tryz.prog) w B t o.type e i0 z k by_ hu hi hz0 hz1 hz2 hzk hk v L.length L.flatten hown.1
      ad Lx.length c Lx.flatten (flat_len h6) (hcells ad rfl) hone (by unfold maxLen; omega) hlen hB
    simp only [ho, resolve, invoke, builtin, Sem.run_bind, Sem.run_pure, Result.andThen_ok, List.map_toArray, List.map_cons, List.map_nil, hs, hx, hrun]
    refine hK _ _ (h v' w' ⟨by simpa using h2, fun q hq => ?_⟩ ⟨h3.os, h3.tape, h3.output, h3.size, fun b hb hn => h3.block b hb hn⟩ (h5.imp id fun e g hg => by rw [e] at hg; cases hg; simp))
    rcases List.mem_append.1 hq with h2 | h2
    · exact hown.2 q h2
    · exact h6 q h2
theorem lit_recsK (w : World) (e : TypeId) (k : Nat) {B : Nat} (hB : B ≤ w.heap.size) : OwnR (w.alloc (.cells #[] e)) B e k (.slice (some ⟨w.heap.size, 0, none⟩) 0 0) [] :=
  ⟨World.ownsRow_lit w #[] 0 hB (by unfold maxLen; omega) (by simp), fun r hr => by cases hr⟩
end Go.Proofs.YtdjldidfnddpmaaGreatDoor
