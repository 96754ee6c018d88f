/- What a call that writes into some blocks leaves as it was, for blocks known whole and own slices; appends that say it; boxes that a region writes at its end. No condition. (Not beside DkE, DkJ, AppE, RnC: the same names.) -/
import Derived.Test.YtdjldidfnddpmaaGreatDoorDk0
import Derived.Test.YtdjldidfnddpmaaGreatDoorOwnR
import Derived.Test.YtdjldidfnddpmaaGreatDoorRegM
import Derived.Test.YtdjldidfnddpmaaGreatDoorBlkB
import Derived.Maps.AppendAt
namespace Go.Proofs.YtdjldidfnddpmaaGreatDoor
open Go.RowKit

theorem OwnR.eff {S : Nat → Prop} {w w' : World} {B k : Nat} {e : TypeId} {v : Value} {L : List (List Value)} (h : OwnR w B e k v L) (hE : Eff S w w') (hn : ∀ g, v.ownBlock = some g → ¬ S g) : OwnR w' B e k v L := by
  obtain ⟨⟨h1, h2⟩, h3⟩ := h
  refine ⟨⟨h1, h2.imp id ?_⟩, h3⟩
  rintro ⟨g, cap, cur, e1, e2, e3, e4⟩
  refine ⟨g, cap, cur, e1, e2, ?_, e4⟩
  exact (hE.block g ((Array.getElem?_eq_some_iff.1 e3).1) (hn g (by rw [e1]; rfl))).trans e3
theorem Blk.eff {S : Nat → Prop} {w w' : World} {b : Nat} {vs : List Value} {t : TypeId} (h : Blk w b vs t) (hE : Eff S w w') (hn : ¬ S b) : Blk w' b vs t := (hE.block b h.lt hn).trans h
theorem OwnR.neT {w : World} {B k b : Nat} {e t : TypeId} {v : Value} {L : List (List Value)} {vs : List Value} (h : OwnR w B e k v L) (hb : Blk w b vs t) (ht : t ≠ e) : v.ownBlock ≠ some b := by
  rcases h.form with ⟨rfl, -⟩ | ⟨g, c, cur, rfl, -, e3, -⟩
  · simp [Value.ownBlock]
  · intro he
    have he : g = b := Option.some.inj he
    subst he
    have := (show w.heap[g]? = _ from hb).symm.trans e3
    simp at this; exact ht this.2
theorem OwnI.eff {S : Nat → Prop} {w w' : World} {B : Nat} {v : Value} {l : List Int} (h : OwnI w B v l) (hE : Eff S w w') (hn : ∀ g, v.ownBlock = some g → ¬ S g) : OwnI w' B v l := by
  obtain ⟨h1, h2⟩ := h
  refine ⟨h1, h2.imp id ?_⟩
  rintro ⟨g, cap, cur, e1, e2, e3, e4⟩
  exact ⟨g, cap, cur, e1, e2, (hE.block g ((Array.getElem?_eq_some_iff.1 e3).1) (hn g (by rw [e1]; rfl))).trans e3, e4⟩
theorem OwnI.neT {w : World} {B b : Nat} {t : TypeId} {v : Value} {l : List Int} {vs : List Value} (h : OwnI w B v l) (hb : Blk w b vs t) (ht : t ≠ 3) : v.ownBlock ≠ some b := by
  rcases h.2 with ⟨rfl, -⟩ | ⟨g, cap, cur, rfl, e2, e3, -⟩
  · simp [Value.ownBlock]
  · intro he
    have he : g = b := Option.some.inj he
    subst he
    have := (show w.heap[g]? = _ from hb).symm.trans e3
    simp at this; exact ht this.2
theorem app_intE {w : World} {ops : Array Oper} {rest : List Oper} {o : Oper} {a : Act} {Q : Exit → Act → World → Prop} (hgd : o.guard = none) (s x : Operand)
    (ho : o.op = .call { callee := .builtin .append, args := #[s, x], argTypes := #[36, 36] }) (B : Nat) (v : Value) (l : List Int) (hs : a.eval s = v) (hown : OwnI w B v l) (y : Int)
    (hx : a.eval x = .slice (some ⟨w.heap.size, 0, none⟩) 1 1) (hlen : l.length < 1000000) (hB : B ≤ w.heap.size)
    (h : ∀ v' w', OwnI w' B v' (l ++ [y]) → Eff (fun k => some k = v.ownBlock) w w' → (v'.ownBlock = v.ownBlock ∨ ∀ g, v'.ownBlock = some g → w.heap.size ≤ g) → wpList Tryz.prog ops Q rest (a.put o.dst v') w') :
    wpList Tryz.prog ops Q (o :: rest) a (w.alloc (.cells #[.int .i64 y] 3)) := by
  obtain ⟨i0, hi, hz0, hz1, hz2⟩ := info_parts infoInt
  have hnews : ∀ j u, [Value.int .i64 y][j]? = some u → (w.alloc (.cells #[.int .i64 y] 3)).cell? ((⟨w.heap.size, 0, none⟩ : Addr).add j) = some u := by
    intro j u hj
    match j, hj with
    | 0, hj => simp at hj; subst hj; simp [Addr.add]
  obtain ⟨v', w', hrun, h2, h3, -, h5⟩ := run_append_own_at (P := Tryz.prog) (w.alloc (.cells #[.int .i64 y] 3)) B 36 o.type 3 i0 (.int .i64 0) 1 8 Tryz.underlying36 hi hz0 hz1 hz2 rfl (by decide) v l.length (l.map (Value.int .i64)) (World.ownsRow.alloc hown _)
    ⟨w.heap.size, 0, none⟩ 1 1 [.int .i64 y] rfl hnews (by intro u hu; simp at hu; subst hu; rfl) (by unfold maxLen; omega) (by omega) (by simp; omega)
  refine wpList_plain hgd fun K hK => ?_
  unfold Oper.wp execOp
  simp only [ho, resolve, invoke, builtin, Sem.run_bind, Sem.run_pure, Result.andThen_ok, List.map_toArray, List.map_cons, List.map_nil, hs, hx, hrun]
  refine hK _ _ (h v' w' (by simpa [OwnI] using h2) ⟨h3.os, h3.tape, h3.output, by have := h3.size; simp at this; omega, fun b hb hn => ?_⟩ (h5.imp id fun e g hg => by rw [e] at hg; cases hg; simp))
  rw [h3.block b (by simp; omega) hn, Below.heap_alloc _ _ _ hb]
theorem app_recE {w : World} {ops : Array Oper} {rest : List Oper} {o : Oper} {a : Act} {Q : Exit → Act → World → Prop} {e t : TypeId} {k by_ : Nat} {z : Value}
    (hinfo : (Tryz.prog.info? e).map (fun i => (i.zero, i.size, i.bytes)) = some (some z, k, by_)) (hzk : z.cells.size = k) (hk : 0 < k) (hu : Tryz.prog.underlying t = some (.slice e)) (hgd : o.guard = none) (s x : Operand)
    (ho : o.op = .call { callee := .builtin .append, args := #[s, x], argTypes := #[t, t] }) (B : Nat) (v : Value) (L : List (List Value)) (hs : a.eval s = v) (hown : OwnR w B e k v L) (r : List Value) (hrk : r.length = k)
    (h1 : ∀ u ∈ r, u.oneCell' = true) (nb : Nat) (hx : a.eval x = .slice (some ⟨nb, 0, none⟩) 1 1) (hnb : nb = w.heap.size) (hlen : (L.length + 1) * by_ ≤ 140737488355328) (hlen2 : L.length < 1000000) (hB : B ≤ w.heap.size)
    (h : ∀ v' w', OwnR w' B e k v' (L ++ [r]) → Eff (fun k => some k = v.ownBlock) w w' → (v'.ownBlock = v.ownBlock ∨ ∀ g, v'.ownBlock = some g → w.heap.size ≤ g) → wpList Tryz.prog ops Q rest (a.put o.dst v') w') :
    wpList Tryz.prog ops Q (o :: rest) a (w.alloc (.cells r.toArray e)) := by
  subst hnb
  obtain ⟨i0, hi, hz0, hz1, hz2⟩ := info_parts hinfo
  have hnews : ∀ j u, r[j]? = some u → (w.alloc (.cells r.toArray e)).cell? ((⟨w.heap.size, 0, none⟩ : Addr).add j) = some u := fun j u hj => by
    have := (Blk.new w r e).cell j hj
    cases j <;> simpa [Addr.add] using this
  obtain ⟨v', w', hrun, h2, h3, -, h5⟩ := run_append_own_at (P := Tryz.prog) (w.alloc (.cells r.toArray e)) B t o.type e i0 z k by_ hu hi hz0 hz1 hz2 hzk hk v L.length L.flatten (World.ownsRow.alloc hown.1 _)
    ⟨w.heap.size, 0, none⟩ 1 1 r (by rw [hrk]; omega) hnews h1 (by unfold maxLen; omega) hlen (by simp; omega)
  refine wpList_plain hgd fun K hK => ?_
  unfold Oper.wp execOp
  simp only [ho, resolve, invoke, builtin, Sem.run_bind, Sem.run_pure, Result.andThen_ok, List.map_toArray, List.map_cons, List.map_nil, hs, hx, hrun]
  refine hK _ _ (h v' w' ⟨by simpa using h2, fun q hq => ?_⟩ ⟨h3.os, h3.tape, h3.output, by have := h3.size; simp at this; omega, fun b hb hn => ?_⟩ (h5.imp id fun e g hg => by rw [e] at hg; cases hg; simp))
  · rcases List.mem_append.1 hq with h2 | h2
    · exact hown.2 q h2
    · simp at h2; rw [h2, hrk]
  · rw [h3.block b (by simp; omega) hn, Below.heap_alloc _ _ _ hb]

theorem OwnR.later' {w w' : World} {B : Nat} {e : TypeId} {k : Nat} {v : Value} {L : List (List Value)} (h : OwnR w B e k v L) (hb : Below w.heap.size w w') : OwnR w' B e k v L :=
  h.eff (Eff.of_below hb (fun _ => False)) (fun _ _ h => h)
/-- all but block R is as in X; R holds l0, or l1 at the end -/
structure BoxG (w X : World) (R : Nat) (t : TypeId) (l0 l1 : List Value) (d : Bool) (W : World) : Prop where
  hb : Below w.heap.size w W
  hE : Eff (· = R) X W
  hR : Blk W R (if d then l1 else l0) t
theorem BoxG.first {w X : World} {R : Nat} {t : TypeId} {l0 l1 : List Value} (hb : Below w.heap.size w X) (hR : Blk X R l0 t) : BoxG w X R t l0 l1 false X.drew :=
  ⟨hb.trans ((Below.refl _ _).drew), Eff.drew _ _, hR.later (Below.refl _ _).drew⟩
theorem BoxG.later {w X : World} {R : Nat} {t : TypeId} {l0 l1 : List Value} {d : Bool} {W W' : World} (h : BoxG w X R t l0 l1 d W) (hb : Below W.heap.size W W') : BoxG w X R t l0 l1 d W' :=
  ⟨below2 h.hb hb, h.hE.trans (Eff.of_below hb _), h.hR.later hb⟩
theorem BoxG.blk {w X : World} {R : Nat} {t : TypeId} {l0 l1 : List Value} {d : Bool} {W : World} (h : BoxG w X R t l0 l1 d W) {b : Nat} {vs : List Value} {t' : TypeId} (hB : Blk X b vs t') (hn : b ≠ R) : Blk W b vs t' := hB.eff h.hE hn
theorem BoxG.cell {w X : World} {R : Nat} {t : TypeId} {l0 l1 : List Value} {d : Bool} {W : World} (h : BoxG w X R t l0 l1 d W) {a : Addr} {v : Value} (hn : a.block ≠ R) (hc : X.cell? a = some v) : W.cell? a = some v :=
  (World.cell?_of_block (h.hE.block a.block (lt_of_cell hc) hn)).trans hc
theorem BoxG.box {w X : World} {R : Nat} {t : TypeId} {l0 l1 : List Value} {W : World} (h : BoxG w X R t l0 l1 false W) : Blk W R l0 t := h.hR
theorem BoxG.done {w X : World} {R : Nat} {t : TypeId} {l0 l1 : List Value} {W : World} (h : BoxG w X R t l0 l1 true W) : Blk W R l1 t := h.hR
theorem BoxG.put2 {w X : World} {R : Nat} {t : TypeId} {x0 x1 u0 u1 : Value} {W : World} (h : BoxG w X R t [x0, x1] [u0, u1] false W) (hR : w.heap.size ≤ R) :
    BoxG w X R t [x0, x1] [u0, u1] true (World.setCell (World.setCell W ⟨R, 0, none⟩ u0) ⟨R, 1, none⟩ u1) :=
  ⟨(h.hb.setCell (p := ⟨R, 0, none⟩) hR _).setCell (p := ⟨R, 1, none⟩) hR _, (h.hE.trans (Eff.setCell _ _ _ _)).trans (Eff.setCell _ _ _ _), (h.box.set 0 u0).set 1 u1⟩
theorem BoxG.put3 {w X : World} {R : Nat} {t : TypeId} {x0 x1 x2 u0 u1 u2 : Value} {W : World} (h : BoxG w X R t [x0, x1, x2] [u0, u1, u2] false W) (hR : w.heap.size ≤ R) :
    BoxG w X R t [x0, x1, x2] [u0, u1, u2] true (World.setCell (World.setCell (World.setCell W ⟨R, 0, none⟩ u0) ⟨R, 1, none⟩ u1) ⟨R, 2, none⟩ u2) :=
  ⟨(set3 h.box u0 u1 u2).2.1 _ _ h.hb hR, ((h.hE.trans (Eff.setCell _ _ _ _)).trans (Eff.setCell _ _ _ _)).trans (Eff.setCell _ _ _ _), (set3 h.box u0 u1 u2).1⟩
theorem BoxG.put4 {w X : World} {R : Nat} {t : TypeId} {x0 x1 x2 x3 u0 u1 u2 u3 : Value} {W : World} (h : BoxG w X R t [x0, x1, x2, x3] [u0, u1, u2, u3] false W) (hR : w.heap.size ≤ R) :
    BoxG w X R t [x0, x1, x2, x3] [u0, u1, u2, u3] true (World.setCell (World.setCell (World.setCell (World.setCell W ⟨R, 0, none⟩ u0) ⟨R, 1, none⟩ u1) ⟨R, 2, none⟩ u2) ⟨R, 3, none⟩ u3) :=
  ⟨(set4 h.box u0 u1 u2 u3).2.1 _ _ h.hb hR, (((h.hE.trans (Eff.setCell _ _ _ _)).trans (Eff.setCell _ _ _ _)).trans (Eff.setCell _ _ _ _)).trans (Eff.setCell _ _ _ _), (set4 h.box u0 u1 u2 u3).1⟩
theorem BoxG.at0 {w X : World} {R : Nat} {t : TypeId} {x0 x1 x2 u : Value} {W : World} (h : BoxG w X R t [x0, x1, x2] [u, x1, x2] false W) (hR : w.heap.size ≤ R) : BoxG w X R t [x0, x1, x2] [u, x1, x2] true (World.setCell W ⟨R, 0, none⟩ u) :=
  ⟨h.hb.setCell (p := ⟨R, 0, none⟩) hR _, h.hE.trans (Eff.setCell _ _ _ _), h.box.set 0 u⟩
theorem BoxG.at1 {w X : World} {R : Nat} {t : TypeId} {x0 x1 x2 u : Value} {W : World} (h : BoxG w X R t [x0, x1, x2] [x0, u, x2] false W) (hR : w.heap.size ≤ R) : BoxG w X R t [x0, x1, x2] [x0, u, x2] true (World.setCell W ⟨R, 1, none⟩ u) :=
  ⟨h.hb.setCell (p := ⟨R, 1, none⟩) hR _, h.hE.trans (Eff.setCell _ _ _ _), h.box.set 1 u⟩
theorem BoxG.at2 {w X : World} {R : Nat} {t : TypeId} {x0 x1 x2 u : Value} {W : World} (h : BoxG w X R t [x0, x1, x2] [x0, x1, u] false W) (hR : w.heap.size ≤ R) : BoxG w X R t [x0, x1, x2] [x0, x1, u] true (World.setCell W ⟨R, 2, none⟩ u) :=
  ⟨h.hb.setCell (p := ⟨R, 2, none⟩) hR _, h.hE.trans (Eff.setCell _ _ _ _), h.box.set 2 u⟩
end Go.Proofs.YtdjldidfnddpmaaGreatDoor
