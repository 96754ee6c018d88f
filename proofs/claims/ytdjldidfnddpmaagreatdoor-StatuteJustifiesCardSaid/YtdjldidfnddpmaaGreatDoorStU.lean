/- Walks of package statute: insert. Conditions: an own ascending slice of integers; a slice of one integer. -/
import Derived.Test.YtdjldidfnddpmaaGreatDoorStP
import Derived.Test.YtdjldidfnddpmaaGreatDoorSortK
import Derived.Test.YtdjldidfnddpmaaGreatDoorSpA
namespace Go.Proofs.YtdjldidfnddpmaaGreatDoor
open Go.RowKit Go.Shelf Go.Sort
/-- many integers -/
theorem app_intsS {w : World} {ops : Array Oper} {rest : List Oper} {o : Oper} {a : Act} {Q : Exit → Act → World → Prop} (hgd : o.guard = none) (s x : Operand)
    (ho : o.op = .call { callee := .builtin .append, args := #[s, x], argTypes := #[36, 36] }) (B : Nat) (v : Value) (l : List Int) (hs : a.eval s = v) (hown : OwnI w B v l) (xv : Value) (lx : List Int)
    (hx : a.eval x = xv) (hxs : IntsAt w xv lx) (hlen : l.length + lx.length < 1000000) (hB : B ≤ w.heap.size)
    (h : ∀ v' w', OwnI w' B v' (l ++ lx) → Eff (fun k => some k = v.ownBlock) w w' → (v'.ownBlock = v.ownBlock ∨ ∀ g, v'.ownBlock = some g → w.heap.size ≤ g) → wpList Tryz.prog ops Q rest (a.put o.dst v') w') :
    wpList Tryz.prog ops Q (o :: rest) a w := by
  obtain ⟨i0, hi, hz0, hz1, hz2⟩ := info_parts infoInt
  obtain ⟨xa, c, rfl, -, -, hc⟩ := hxs
  cases xa with
  | none =>
    have e : lx = [] := by
      cases lx with
      | nil => rfl
      | cons y t => obtain ⟨b, o, e, -⟩ := hc 0 (by simp); cases e
    subst e
    have hrun : (Builtin.append_ #[36, 36] o.type #[v, .slice none 0 c]).run Tryz.prog w = .ok v w := by
      have h3 := hown
      rcases h3.2 with ⟨rfl, h4⟩ | ⟨g, cap, cur, rfl, _, _, hnc, _⟩
      · simp [Builtin.append_, run_underlying Tryz.underlying36, sizeOf, typeInfo, hi, Builtin.lenOf, Builtin.firstCells]
      · simp [Builtin.append_, run_underlying Tryz.underlying36, sizeOf, typeInfo, hi, Builtin.lenOf, Builtin.firstCells, hnc, storeCells]
    refine wpList_plain hgd fun K hK => ?_
    have hx' : a.eval x = .slice none 0 c := hx
    unfold Oper.wp execOp
    simp only [ho, resolve, invoke, builtin, Sem.run_bind, Sem.run_pure, Result.andThen_ok, List.map_toArray, List.map_cons, List.map_nil, hs, hx', hrun]
    exact hK _ _ (h v w (by simpa using hown) (Eff.refl _ _) (.inl rfl))
  | some ad =>
    have hlow : ad.block < w.heap.size → ∀ j u, (lx.map (Value.int .i64))[j]? = some u → w.cell? (ad.add j) = some u := fun _ j u hj => by
      rw [List.getElem?_map] at hj
      cases hl : lx[j]? with
      | none => simp [hl] at hj
      | some y =>
        have hjl : j < lx.length := (List.getElem?_eq_some_iff.1 hl).1
        obtain ⟨b, o', e, hcl⟩ := hc j hjl
        cases e
        have : u = .int .i64 (lx.getD j 0) := by rw [hl] at hj; rw [List.getD_eq_getElem?_getD, hl]; simpa using hj.symm
        rw [this]
        cases j <;> simpa [Addr.add] using hcl
    have hcells : ∀ j u, (lx.map (Value.int .i64))[j]? = some u → w.cell? (ad.add j) = some u := fun j u hj => by
      refine hlow ?_ j u hj
      have hjl : j < lx.length := by
        have := (List.getElem?_eq_some_iff.1 hj).1; simpa using this
      obtain ⟨b, o', e, hcl⟩ := hc j hjl
      cases e
      exact lt_of_cell (a := ⟨b, o' + j, none⟩) hcl
    obtain ⟨v', w', hrun, h2, h3, -, h5⟩ := run_append_own_at (P := Tryz.prog) w B 36 o.type 3 i0 (.int .i64 0) 1 8 Tryz.underlying36 hi hz0 hz1 hz2 rfl (by decide) v l.length (l.map (Value.int .i64)) hown
      ad lx.length c (lx.map (Value.int .i64)) (by simp) hcells (by intro u hu; obtain ⟨y, -, rfl⟩ := List.mem_map.1 hu; rfl) (by unfold maxLen; omega) (by omega) hB
    refine wpList_plain hgd fun K hK => ?_
    unfold Oper.wp execOp
    simp only [ho, resolve, invoke, builtin, Sem.run_bind, Sem.run_pure, Result.andThen_ok, List.map_toArray, List.map_cons, List.map_nil, hs, hx, hrun]
    refine hK _ _ (h v' w' (by simpa [OwnI] using h2) ⟨h3.os, h3.tape, h3.output, h3.size, fun b hb hn => h3.block b hb hn⟩ (h5.imp id fun e g hg => by rw [e] at hg; cases hg; exact Nat.le_refl _))
theorem asc_eq : ∀ (a b : List Int), a.Pairwise (· < ·) → b.Pairwise (· < ·) → (∀ x, x ∈ a ↔ x ∈ b) → a = b
  | [], [], _, _, _ => rfl
  | [], y :: b, _, _, h => by have := (h y).2 (by simp); cases this
  | x :: a, [], _, _, h => by have := (h x).1 (by simp); cases this
  | x :: a, y :: b, ha, hb, h => by
    rw [List.pairwise_cons] at ha hb
    have e : x = y := by
      have h1 := (h x).1 (by simp)
      have h2 := (h y).2 (by simp)
      rcases List.mem_cons.1 h1 with e | h1'
      · exact e
      · rcases List.mem_cons.1 h2 with e | h2'
        · exact e.symm
        · have := hb.1 x h1'; have := ha.1 y h2'; omega
    subst e
    congr 1
    refine asc_eq a b ha.2 hb.2 fun z => ⟨fun hz => ?_, fun hz => ?_⟩
    · rcases List.mem_cons.1 ((h z).1 (by simp [hz])) with e | h3
      · subst e; have := ha.1 z hz; omega
      · exact h3
    · rcases List.mem_cons.1 ((h z).2 (by simp [hz])) with e | h3
      · subst e; have := hb.1 z hz; omega
      · exact h3

def OwnToE (B : Nat) (v0 : Value) (l : List Int) (w : World) (e : Ending) (w' : World) : Prop := ∃ v, e = .returned v ∧ OwnI w' B v l ∧ Eff (fun k => some k = v0.ownBlock) w w' ∧ (v.ownBlock = v0.ownBlock ∨ ∀ g, v.ownBlock = some g → w.heap.size ≤ g)
theorem insF_eq {l : List Int} {y : Int} (h : AscI l) : Lib.compact (sortF (l ++ [y])) = insertedF l y :=
  asc_eq _ _ (compact_lt _ (sortF_le _)) (inserted_pair h) fun x => by
    rw [compact_mem, sortF_mem, mem_inserted, List.mem_append, List.mem_singleton, Or.comm]
theorem sort_E {ls : List Int} {g n c B : Nat} {w : World} (hv : OwnI w B (.slice (some ⟨g, 0, none⟩) n c) ls) (hn : n = ls.length) (hl : ls.length < 1000000) :
    Calls Tryz.prog 50 #[.slice (some ⟨g, 0, none⟩) n c] w (fun e w' => e = .returned (.tuple #[]) ∧ OwnI w' B (.slice (some ⟨g, 0, none⟩) n c) (sortF ls) ∧ Eff (· = g) w w') := by
  subst hn
  obtain ⟨k1, k2, k3, k4⟩ := own_holds hv
  refine (Go.Proofs.Tryz.slices_Sort_int g 0 c ls w k1 k2 (by omega)).mono ?_
  rintro e w2 ⟨rfl, n, os, hw2⟩
  have h2 := own_put (ts := sortF ls) (us := []) (n := n) (os := os) hv (by simp [sortF_len])
  have hw3 : w2 = grow (putRow (Value.int .i64) (Sort.ahead w n) g 0 (sortF ls).toArray) os := hw2
  rw [List.append_nil, ← hw3, sortF_len] at h2
  exact ⟨rfl, h2.1, h2.2⟩
theorem compact_E {ls : List Int} {g n c B : Nat} {w : World} (hv : OwnI w B (.slice (some ⟨g, 0, none⟩) n c) ls) (hn : n = ls.length) (hl : ls.length < 1000000) (h0 : ls ≠ []) :
    Calls Tryz.prog 51 #[.slice (some ⟨g, 0, none⟩) n c] w (fun e w' => ∃ m, e = .returned (.slice (some ⟨g, 0, none⟩) m c) ∧ OwnI w' B (.slice (some ⟨g, 0, none⟩) m c) (Lib.compact ls) ∧ Eff (· = g) w w') := by
  subst hn
  obtain ⟨k1, k2, k3, k4⟩ := own_holds hv
  have hp : 0 < ls.length := List.length_pos_iff.2 h0
  refine (Go.Proofs.Tryz.slices_Compact_int g 0 c ls w k1 (by omega) k4).mono ?_
  rintro e w2 ⟨rfl, q, hw2⟩
  have h2 := own_put (ts := Lib.compact ls) (us := List.replicate (ls.length - (Lib.compact ls).length) 0) (n := q) (os := #[]) hv (by have := compact_len_le ls; simp; omega)
  rw [grow_empty, ← show w2 = _ from hw2] at h2
  exact ⟨_, rfl, h2.1, h2.2⟩
theorem Eff.then {S T : Nat → Prop} {a b c : World} (h : Eff S a b) (k : Eff T b c) (hs : ∀ j, j < a.heap.size → T j → S j) : Eff S a c :=
  ⟨k.os.trans h.os, k.tape.trans h.tape, k.output.trans h.output, Nat.le_trans h.size k.size, fun j hj hn => (k.block j (Nat.lt_of_lt_of_le hj h.size) fun ht => hn (hs j hj ht)).trans (h.block j hj hn)⟩
set_option maxHeartbeats 400000 in
theorem insertS_any (l : List Int) (y : Int) (v x : Value) (B : Nat) (w : World) (hv : OwnI w B v l) (hx : IntsAt w x [y]) (ha : AscI l) (hl : l.length < 100000) (hB : B ≤ w.heap.size) :
    Calls Tryz.prog 23 #[v, x] w (OwnToE B v (insertedF l y) w) := by
  have HI := hide (insF_eq (l := l) (y := y) ha)
  clear ha
  go_enter Tryz.func23, Tryz.ntmps23
  go_wp2_with (at_builtin; refine app_intsS rfl _ _ rfl B v l rfl hv x [y] rfl hx (by simp; omega) hB ?_; intro v1 w1 ho1 hE1 hob1)
  obtain ⟨g, c, rfl⟩ := ho1.succ
  have hl1 : (l ++ [y]).length < 1000000 := by simp; omega
  refine (sort_E ho1 (by simp) hl1).mono ?_
  rintro e w2 ⟨rfl, ho2, hE2⟩
  have hg : ∀ j, j < w.heap.size → j = g → some j = v.ownBlock := by
    rintro j hj rfl
    rcases hob1 with h | h
    · exact h
    · have := h j rfl; omega
  clear hx hv
  go_wp2_with fail
  refine (compact_E ho2 (by rw [sortF_len]; simp) (by rw [sortF_len]; exact hl1) (fun h => by have := congrArg List.length h; rw [sortF_len] at this; simp at this)).mono ?_
  rintro e w3 ⟨m, rfl, ho3, hE3⟩
  rw [HI.out] at ho3
  go_wp2_with fail
  go_ret
  exact ⟨_, rfl, ho3, (hE1.then hE2 hg).then hE3 hg, hob1.imp (fun h => h) (fun h k hk => h k hk)⟩
end Go.Proofs.YtdjldidfnddpmaaGreatDoor
