/- The walk of wrong of the reference of package proof. Conditions: how the arguments lie in memory; sizes; that the rows' numbers are bounded. -/
import Derived.Test.YtppfdjjhloaopaaPgA
import Derived.Test.YtppfdjjhloaopaaSmA
import Derived.Test.YtppfdjjhloaopaaRegM
import Derived.Deep.DeepCutAuto
import Derived.Test.YtppfdjjhloaopaaPmodD
import Derived.Deep.RegionLawGrows
import Derived.Test.YtppfdjjhloaopaaPfK
import Derived.Test.YtppfdjjhloaopaaPfF
import Derived.Test.YtppfdjjhloaopaaPmodF
import Derived.BigRegion
/- Memory for the walk of Bent of the reference: a copy of a proof, of which one step has weights of its own. Conditions: how the values lie in memory; sizes. -/
namespace Go.Proofs.Ytppfdjjhloaopaa
open Go.RowKit

theorem infoWt : (Try.prog.info? 56).map (fun i => (i.zero, i.size, i.bytes)) = some (some (.agg #[.int .i64 0, .int .i64 0]), 2, 16) := by kernel_rfl
def wtCells (p : Int × Int) : List Value := [.int .i64 p.1, .int .i64 p.2]
/-- the cells of a list of steps that lies anywhere -/
theorem steps_list {c : Rd} {sa : Option Addr} {sc : Nat} {l : List StepD} (h : StepsIn c (.slice sa l.length sc) l) : ∃ L : List (List Value), L.length = l.length ∧ (∀ r ∈ L, r.length = 4) ∧ (∀ u ∈ L.flatten, u.oneCell' = true) ∧
    (∀ b, sa = some b → ∀ j u, L.flatten[j]? = some u → c (b.add j) = some u) ∧ (sa = none → L = []) ∧ ∀ i, i < l.length → ∃ wv, L.getD i [] = stepCells (l.getD i st0) wv ∧ WtsIn c wv (l.getD i st0).wts := by
  obtain ⟨a, n', e, h1, h2, h3⟩ := h
  cases e
  have h4 : ∀ i : Nat, ∃ wv, i < l.length → ∃ b o, sa = some ⟨b, o, none⟩ ∧ StepIn c b (o + i * 4) wv (l.getD i st0) := fun i => by
    by_cases hi : i < l.length
    · obtain ⟨b, o, wv, e, hc⟩ := h3 i hi
      exact ⟨wv, fun _ => ⟨b, o, e, hc⟩⟩
    · exact ⟨undef, fun h => absurd h hi⟩
  obtain ⟨f, hf⟩ := Classical.axiomOfChoice h4
  have hlen : ((List.range l.length).map fun i => stepCells (l.getD i st0) (f i)).length = l.length := by simp
  have hget : ∀ i, i < l.length → ((List.range l.length).map fun i => stepCells (l.getD i st0) (f i)).getD i [] = stepCells (l.getD i st0) (f i) := fun i hi => by
    rw [List.getD_eq_getElem?_getD, List.getElem?_map, List.getElem?_range hi]; rfl
  have hfour : ∀ r ∈ (List.range l.length).map (fun i => stepCells (l.getD i st0) (f i)), r.length = 4 := fun r hr => by
    obtain ⟨i, -, rfl⟩ := List.mem_map.1 hr; rfl
  refine ⟨(List.range l.length).map fun i => stepCells (l.getD i st0) (f i), hlen, hfour, fun u hu => ?_, fun b hb j u hj => ?_, fun hn => ?_, fun i hi => ⟨f i, hget i hi, ?_⟩⟩
  · obtain ⟨r, hr, hur⟩ := List.mem_flatten.1 hu
    obtain ⟨i, hi, rfl⟩ := List.mem_map.1 hr
    obtain ⟨b, o, -, h⟩ := hf i (List.mem_range.1 hi)
    obtain ⟨wa, wc, e, -⟩ := h.2.2.2.2
    rw [e] at hur
    simp [stepCells] at hur
    rcases hur with rfl | rfl | rfl | rfl <;> rfl
  · have hjl : j < l.length * 4 := by
      have := flat_len hfour
      rw [hlen] at this
      have h5 := (List.getElem?_eq_some_iff.1 hj).1
      omega
    have hd : j / 4 < l.length := by omega
    have e : j / 4 * 4 + j % 4 = j := by omega
    rw [← e, flat_get hfour _ _ (by omega), hget _ hd] at hj
    obtain ⟨b', o, hb', c0, c1, c2, c3, -⟩ := hf _ hd
    rw [hb] at hb'; cases hb'
    have ea : (⟨b', o, none⟩ : Addr).add j = ⟨b', o + j / 4 * 4 + j % 4, none⟩ := by
      rw [Nat.add_assoc, e]
      by_cases h0 : j = 0
      · subst h0; simp [Addr.add]
      · simp [Addr.add, h0]
    rw [ea]
    have h6 : j % 4 < 4 := by omega
    rcases hm : j % 4 with _ | _ | _ | _ | m
    all_goals first | (rw [hm] at hj; simp [stepCells] at hj; subst hj; assumption) | omega
  · cases l with
    | nil => rfl
    | cons x t => obtain ⟨b, o, wv, e, -⟩ := h3 0 (by simp); rw [hn] at e; cases e
  · obtain ⟨b, o, -, h⟩ := hf i hi; exact h.2.2.2.2
/-- the cells of weights that lie anywhere -/
theorem wts_list {c : Rd} {wv : Value} {ws : List (Int × Int)} (h : WtsIn c wv ws) : ∃ a n, wv = .slice a ws.length n ∧ (∀ b, a = some b → ∀ j u, (ws.map wtCells).flatten[j]? = some u → c (b.add j) = some u) ∧ (a = none → ws.map wtCells = []) := by
  obtain ⟨a, n, e, h1, h2, h3⟩ := h
  have htwo : ∀ r ∈ ws.map wtCells, r.length = 2 := fun r hr => by obtain ⟨p, -, rfl⟩ := List.mem_map.1 hr; rfl
  refine ⟨a, n, e, fun b hb j u hj => ?_, fun hn => ?_⟩
  · have hjl : j < ws.length * 2 := by
      have := flat_len htwo
      rw [List.length_map] at this
      have h5 := (List.getElem?_eq_some_iff.1 hj).1
      omega
    have hd : j / 2 < ws.length := by omega
    have e : j / 2 * 2 + j % 2 = j := by omega
    have hget : (ws.map wtCells).getD (j / 2) [] = wtCells (ws.getD (j / 2) (0, 0)) := by
      rw [List.getD_eq_getElem?_getD, List.getElem?_map, List.getElem?_eq_getElem hd, List.getD_eq_getElem?_getD, List.getElem?_eq_getElem hd]; rfl
    rw [← e, flat_get htwo _ _ (by omega), hget] at hj
    obtain ⟨b', o, hb', c0, c1⟩ := h3 _ hd
    rw [hb] at hb'; cases hb'
    have ea : (⟨b', o, none⟩ : Addr).add j = ⟨b', o + j / 2 * 2 + j % 2, none⟩ := by
      rw [Nat.add_assoc, e]
      by_cases h0 : j = 0
      · subst h0; simp [Addr.add]
      · simp [Addr.add, h0]
    rw [ea]
    have h6 : j % 2 < 2 := by omega
    rcases hm : j % 2 with _ | _ | m
    all_goals first | (rw [hm] at hj; simp [wtCells] at hj; subst hj; assumption) | omega
  · cases ws with
    | nil => rfl
    | cons x t => obtain ⟨b, o, e, -⟩ := h3 0 (by simp); rw [hn] at e; cases e
theorem wts_two (ws : List (Int × Int)) : (∀ r ∈ ws.map wtCells, r.length = 2) ∧ ∀ u ∈ (ws.map wtCells).flatten, u.oneCell' = true := by
  refine ⟨fun r hr => by obtain ⟨p, -, rfl⟩ := List.mem_map.1 hr; rfl, fun u hu => ?_⟩
  obtain ⟨r, hr, hur⟩ := List.mem_flatten.1 hu
  obtain ⟨p, -, rfl⟩ := List.mem_map.1 hr
  simp [wtCells] at hur
  rcases hur with rfl | rfl <;> rfl
theorem own_wts {W : World} {B : Nat} {wv : Value} {ws : List (Int × Int)} (h : OwnR W B 56 2 wv (ws.map wtCells)) : WtsIn W.cell? wv ws := by
  rcases h.form with ⟨rfl, e2⟩ | ⟨g, c, cur, rfl, e1, e2, e3, e4⟩
  · have : ws = [] := by simpa using e2
    subst this; exact WtsIn.empty _
  · rw [List.length_map] at e3 ⊢
    refine ⟨some ⟨g, 0, none⟩, c, rfl, e3, by unfold maxLen at e4; omega, fun k hk => ⟨g, 0, rfl, ?_, ?_⟩⟩
    all_goals
      have hget : (ws.map wtCells).getD k [] = wtCells (ws.getD k (0, 0)) := by
        rw [List.getD_eq_getElem?_getD, List.getElem?_map, List.getElem?_eq_getElem hk, List.getD_eq_getElem?_getD, List.getElem?_eq_getElem hk]; rfl
      rw [Nat.zero_add]
    · have := h.cell k 0 (by simpa using hk) (by omega) (by rw [hget]; rfl)
      simpa using this
    · have := h.cell k 1 (by simpa using hk) (by omega) (by rw [hget]; rfl)
      simpa using this
end Go.Proofs.Ytppfdjjhloaopaa
/- The walk of Bent of the reference. Conditions: how the arguments lie in memory; sizes; that integers are of 64 bits. -/
namespace Go.Proofs.Ytppfdjjhloaopaa
open Go.RowKit

def OkL (M : Nat) (l : List StepD) : Prop := ∀ s ∈ l, s.wts.length ≤ M ∧ ∀ p ∈ s.wts, -1 ≤ p.2 ∧ p.2 ≤ 1003
def BentQ (M : Nat) (l : List StepD) (w : World) (e : Ending) (w' : World) : Prop :=
  ∃ v l', e = .returned v ∧ StepsIn w'.cell? v l' ∧ Below w.heap.size w w' ∧ l'.length ≤ l.length ∧ (0 < l.length → 0 < l'.length) ∧ OkL (M + 1) l'
/-- a copy of the steps l, of which step k is st, with weights of its own -/
def BS (d : Nat) (w W : World) (g c k : Nat) (l : List StepD) (st : StepD) (wv : Value) : Prop :=
  ∃ L, OwnR W (w.heap.size + d) 54 4 (.slice (some ⟨g, 0, none⟩) l.length c) L ∧ L.length = l.length ∧ L.getD k [] = stepCells st wv ∧ OwnR W (w.heap.size + d) 56 2 wv (st.wts.map wtCells) ∧
    (∀ i, i < l.length → i ≠ k → ∃ wv, L.getD i [] = stepCells (l.getD i st0) wv ∧ WtsIn w.cell? wv (l.getD i st0).wts) ∧ Below w.heap.size w W
theorem BS.later {w W W' : World} {d g c k : Nat} {l : List StepD} {st : StepD} {wv : Value} (h : BS d w W g c k l st wv) (hb : Below W.heap.size W W') : BS d w W' g c k l st wv := by
  obtain ⟨L, h1, h2, h3, h4, h5, h6⟩ := h
  exact ⟨L, h1.later' hb, h2, h3, h4.later' hb, h5, below2 h6 hb⟩
theorem BS.cell {w W : World} {d g c k : Nat} {l : List StepD} {st : StepD} {wv : Value} (h : BS d w W g c k l st wv) (hk : k < l.length) (j : Nat) (hj : j < 4) {u : Value} (hu : (stepCells st wv)[j]? = some u) : W.cell? ⟨g, k * 4 + j, none⟩ = some u := by
  obtain ⟨L, h1, h2, h3, -⟩ := h
  exact h1.cell k j (by omega) hj (by rw [h3]; exact hu)
theorem BS.frozen {w W : World} {d g c k : Nat} {l : List StepD} {st : StepD} {wv : Value} (h : BS d w W g c k l st wv) (j : Nat) : W.frozen? ⟨g, j, none⟩ = false := by
  obtain ⟨L, h1, h2, -⟩ := h
  rw [← h2] at h1
  exact h1.frozen j
/-- a slice of records of another type stands as it was -/
theorem OwnR.setT {W : World} {B B' g n c j k k' : Nat} {e t : TypeId} {v : Value} {L L' : List (List Value)} (h : OwnR W B e k v L) (hO : OwnR W B' t k' (.slice (some ⟨g, 0, none⟩) n c) L') (hte : t ≠ e) (u : Value) : OwnR (W.setCell ⟨g, j, none⟩ u) B e k v L := by
  obtain ⟨⟨h1, h2⟩, h3⟩ := h
  rcases hO.form with ⟨e1, -⟩ | ⟨g', c', cur', e1, -, e3', -⟩
  · cases e1
  · cases e1
    refine ⟨⟨h1, h2.imp id ?_⟩, h3⟩
    rintro ⟨g2, cap, cur, e1, e2, e3, e4⟩
    refine ⟨g2, cap, cur, e1, e2, ?_, e4⟩
    refine (Below.heap_setCell W ⟨g, j, none⟩ u g2 ?_).trans e3
    show g2 ≠ g
    rintro rfl
    have := e3.symm.trans e3'
    simp at this; exact hte this.2.symm
theorem BS.put {w W : World} {d g c k : Nat} {l : List StepD} {st st' : StepD} {wv : Value} (h : BS d w W g c k l st wv) (hk : k < l.length) (j : Nat) (hj : j < 4) (u : Value) (hc : (stepCells st wv).set j u = stepCells st' wv) (hw : st'.wts = st.wts) : BS d w (W.setCell ⟨g, k * 4 + j, none⟩ u) g c k l st' wv := by
  obtain ⟨L, h1, h2, h3, h4, h5, h6⟩ := h
  have hB : w.heap.size ≤ g := by
    rcases h1.form with ⟨e1, -⟩ | ⟨g', c', cur', e1, e2, -⟩
    · cases e1
    · injection e1 with h7 _ _; injection h7 with h7; injection h7 with h7; rw [h7]; omega
  have h1' : OwnR W (w.heap.size + d) 54 4 (.slice (some ⟨g, 0, none⟩) L.length c) L := by rw [h2]; exact h1
  have h7 := h1'.set k j (by omega) hj u
  refine ⟨_, by rw [h2] at h7; exact h7, by simp [h2], ?_, by rw [hw]; exact h4.setT h1 (by decide) u, fun i hi hik => ?_, h6.setCell (p := ⟨g, k * 4 + j, none⟩) hB u⟩
  · rw [getD_set_eq' _ (by omega), h3, hc]
  · rw [getD_set_ne' _ hik]; exact h5 i hi hik
theorem BS.steps {w W : World} {d g c k : Nat} {l : List StepD} {st : StepD} {wv : Value} (h : BS d w W g c k l st wv) (hk : k < l.length) : StepsIn W.cell? (.slice (some ⟨g, 0, none⟩) l.length c) (l.set k st) := by
  obtain ⟨L, h1, h2, h3, h4, h5, h6⟩ := h
  have hcap : l.length ≤ c ∧ c ≤ 9223372036854775807 := by
    rcases h1.form with ⟨e1, -⟩ | ⟨g', c', cur', e1, e2, e3, e4, e5⟩
    · cases e1
    · injection e1 with _ _ h8
      unfold maxLen at e5
      omega
  refine ⟨some ⟨g, 0, none⟩, c, by rw [List.length_set], by rw [List.length_set]; exact hcap.1, hcap.2, fun i hi => ?_⟩
  rw [List.length_set] at hi
  have hcell : ∀ (s : StepD) (wv' : Value), L.getD i [] = stepCells s wv' → ∀ (j : Nat) (u : Value), j < 4 → (stepCells s wv')[j]? = some u → W.cell? ⟨g, i * 4 + j, none⟩ = some u := fun s wv' e j u hj hu => h1.cell i j (by omega) hj (by rw [e]; exact hu)
  by_cases hik : i = k
  · subst hik
    rw [getD_set_eq' _ hk]
    have hc := hcell st wv h3
    refine ⟨g, 0, wv, rfl, ?_, ?_, ?_, ?_, own_wts h4⟩ <;> rw [Nat.zero_add]
    · simpa using hc 0 _ (by omega) rfl
    · exact hc 1 _ (by omega) rfl
    · exact hc 2 _ (by omega) rfl
    · exact hc 3 _ (by omega) rfl
  · rw [getD_set_ne' _ hik]
    obtain ⟨wv', e, hW⟩ := h5 i hi hik
    have hc := hcell _ wv' e
    refine ⟨g, 0, wv', rfl, ?_, ?_, ?_, ?_, hW.keeps (keeps_of_below h6)⟩ <;> rw [Nat.zero_add]
    · simpa using hc 0 _ (by omega) rfl
    · exact hc 1 _ (by omega) rfl
    · exact hc 2 _ (by omega) rfl
    · exact hc 3 _ (by omega) rfl
theorem BS.ne {w W : World} {g c k : Nat} {l : List StepD} {st : StepD} {wv : Value} (h : BS 1 w W g c k l st wv) : w.heap.size < g := by
  obtain ⟨L, h1, -⟩ := h
  rcases h1.form with ⟨e1, -⟩ | ⟨g', c', cur', e1, e2, -⟩
  · cases e1
  · injection e1 with h7 _ _; injection h7 with h7; injection h7 with h7; rw [h7]; omega
theorem BS.make {w W : World} {d g c k : Nat} {l : List StepD} {L : List (List Value)} {v5 : Value} (h1 : OwnR W (w.heap.size + d) 54 4 (.slice (some ⟨g, 0, none⟩) l.length c) L) (h2 : L.length = l.length) (hk : k < l.length)
    (h3 : ∀ i, i < l.length → ∃ wv, L.getD i [] = stepCells (l.getD i st0) wv ∧ WtsIn w.cell? wv (l.getD i st0).wts) (h4 : OwnR W (w.heap.size + d) 56 2 v5 ((l.getD k st0).wts.map wtCells)) (h6 : Below w.heap.size w W) :
    BS d w (W.setCell ⟨g, k * 4 + 3, none⟩ v5) g c k l (l.getD k st0) v5 := by
  have hB : w.heap.size ≤ g := by
    rcases h1.form with ⟨e1, -⟩ | ⟨g', c', cur', e1, e2, -⟩
    · cases e1
    · injection e1 with h7 _ _; injection h7 with h7; injection h7 with h7; rw [h7]; omega
  have h1' : OwnR W (w.heap.size + d) 54 4 (.slice (some ⟨g, 0, none⟩) L.length c) L := by rw [h2]; exact h1
  have h7 := h1'.set k 3 (by omega) (by omega) v5
  refine ⟨_, by rw [h2] at h7; exact h7, by simp [h2], ?_, h4.setT h1 (by decide) v5, fun i hi hik => ?_, h6.setCell (p := ⟨g, k * 4 + 3, none⟩) hB v5⟩
  · obtain ⟨wv, e, -⟩ := h3 k hk
    rw [getD_set_eq' _ (by omega), e]; rfl
  · rw [getD_set_ne' _ hik]; exact h3 i hi
theorem BS.hb {w W : World} {d g c k : Nat} {l : List StepD} {st : StepD} {wv : Value} (h : BS d w W g c k l st wv) : Below w.heap.size w W := by
  obtain ⟨L, h1, h2, h3, h4, h5, h6⟩ := h; exact h6
theorem BS.wts {w W : World} {d g c k : Nat} {l : List StepD} {st : StepD} {wv : Value} (h : BS d w W g c k l st wv) : OwnR W (w.heap.size + d) 56 2 wv (st.wts.map wtCells) := by
  obtain ⟨L, h1, h2, h3, h4, h5, h6⟩ := h; exact h4
/-- a weight of the step's own is changed -/
theorem BS.putW {w W : World} {d g c k g5 c5 : Nat} {l : List StepD} {st st' : StepD} (h : BS d w W g c k l st (.slice (some ⟨g5, 0, none⟩) st.wts.length c5)) (j : Nat) (hj : j < 2) (hl : 0 < st.wts.length) (u : Value)
    (hs : st'.var = st.var ∧ st'.no = st.no ∧ st'.yes = st.yes) (hw : (st.wts.map wtCells).set 0 (((st.wts.map wtCells).getD 0 []).set j u) = st'.wts.map wtCells) : BS d w (W.setCell ⟨g5, j, none⟩ u) g c k l st' (.slice (some ⟨g5, 0, none⟩) st.wts.length c5) := by
  obtain ⟨L, h1, h2, h3, h4, h5, h6⟩ := h
  have hB : w.heap.size ≤ g5 := by
    rcases h4.form with ⟨e1, -⟩ | ⟨g', c', cur', e1, e2, -⟩
    · cases e1
    · injection e1 with h7 _ _; injection h7 with h7; injection h7 with h7; rw [h7]; omega
  have h4' : OwnR W (w.heap.size + d) 56 2 (.slice (some ⟨g5, 0, none⟩) (st.wts.map wtCells).length c5) (st.wts.map wtCells) := by rw [List.length_map]; exact h4
  have h7 := h4'.set 0 j (by rw [List.length_map]; exact hl) hj u
  rw [hw, List.length_map, Nat.zero_mul, Nat.zero_add] at h7
  refine ⟨L, h1.setT h4 (by decide) u, h2, ?_, h7, h5, h6.setCell (p := ⟨g5, j, none⟩) hB u⟩
  rw [h3]; unfold stepCells; rw [hs.1, hs.2.1, hs.2.2]
theorem OkL.set {M : Nat} {l : List StepD} (h : OkL M l) (k : Nat) {st : StepD} (h1 : st.wts.length ≤ M + 1) (h2 : ∀ p ∈ st.wts, -1 ≤ p.2 ∧ p.2 ≤ 1003) : OkL (M + 1) (l.set k st) := fun s hs => by
  rcases List.mem_or_eq_of_mem_set hs with h3 | rfl
  · exact ⟨by have := (h s h3).1; omega, (h s h3).2⟩
  · exact ⟨h1, h2⟩
end Go.Proofs.Ytppfdjjhloaopaa
/- The walk of Bent of the reference. Conditions: how the arguments lie in memory; sizes; that integers are of 64 bits. -/
namespace Go.Proofs.Ytppfdjjhloaopaa
open Go.RowKit

theorem own_none {W : World} {b0 B k : Nat} {e : TypeId} (h : Blk W b0 [] e) (hB : B ≤ b0) : OwnR W B e k (.slice (some ⟨b0, 0, none⟩) 0 0) [] :=
  ⟨⟨by simp, .inr ⟨b0, 0, #[], rfl, hB, h, Nat.le_refl _, by unfold maxLen; omega, by simp, by simp⟩⟩, fun r hr => by cases hr⟩
theorem wget {ws : List (Int × Int)} (h : 0 < ws.length) : ws.getD 0 (0, 0) ∈ ws := by
  cases ws with
  | nil => simp at h
  | cons x t => simp
theorem wts_get0 {ws : List (Int × Int)} (h : 0 < ws.length) : (ws.map wtCells).getD 0 [] = wtCells (ws.getD 0 (0, 0)) := by
  cases ws with
  | nil => simp at h
  | cons x t => simp
theorem wts_set0 {ws : List (Int × Int)} (h : 0 < ws.length) (u : Int) : (ws.map wtCells).set 0 (((ws.map wtCells).getD 0 []).set 0 (.int .i64 u)) = (ws.set 0 (u, (ws.getD 0 (0, 0)).2)).map wtCells := by
  cases ws with
  | nil => simp at h
  | cons x t => simp [wtCells]
theorem wts_set1 {ws : List (Int × Int)} (h : 0 < ws.length) (u : Int) : (ws.map wtCells).set 0 (((ws.map wtCells).getD 0 []).set 1 (.int .i64 u)) = (ws.set 0 ((ws.getD 0 (0, 0)).1, u)).map wtCells := by
  cases ws with
  | nil => simp at h
  | cons x t => simp [wtCells]
theorem BS.drew {w W : World} {d g c k : Nat} {l : List StepD} {st : StepD} {wv : Value} (h : BS d w W g c k l st wv) : BS d w { W with drawn := W.drawn + 1 } g c k l st wv := h.later (Below.refl _ _).drew
theorem StepsIn.take {c : Rd} {g n m j : Nat} {l : List StepD} (h : StepsIn c (.slice (some ⟨g, 0, none⟩) n m) l) (hj : j ≤ l.length) : StepsIn c (.slice (some ⟨g, 0, none⟩) j m) (l.take j) := by
  obtain ⟨a', n', e, h2, h3, h4⟩ := h
  injection e with e1 e2 e3
  subst e1 e3
  have ht : (l.take j).length = j := by rw [List.length_take]; omega
  refine ⟨some ⟨g, 0, none⟩, m, by rw [ht], by omega, h3, fun k hk => ?_⟩
  rw [ht] at hk
  have e5 : (l.take j).getD k st0 = l.getD k st0 := by simp [List.getD_eq_getElem?_getD, hk]
  rw [e5]
  exact h4 k (by omega)
/-- the copy of the steps alone; the weights of step k are what lies in wv -/
def BT (d : Nat) (w W : World) (g c k : Nat) (l : List StepD) (st : StepD) (wv : Value) : Prop :=
  ∃ L, OwnR W (w.heap.size + d) 54 4 (.slice (some ⟨g, 0, none⟩) l.length c) L ∧ L.length = l.length ∧ L.getD k [] = stepCells st wv ∧
    (∀ i, i < l.length → i ≠ k → ∃ wv, L.getD i [] = stepCells (l.getD i st0) wv ∧ WtsIn w.cell? wv (l.getD i st0).wts) ∧ Below w.heap.size w W
theorem BS.bt {w W : World} {d g c k : Nat} {l : List StepD} {st : StepD} {wv : Value} (h : BS d w W g c k l st wv) : BT d w W g c k l st wv := by
  obtain ⟨L, h1, h2, h3, h4, h5, h6⟩ := h; exact ⟨L, h1, h2, h3, h5, h6⟩
theorem BT.later {w W W' : World} {d g c k : Nat} {l : List StepD} {st : StepD} {wv : Value} (h : BT d w W g c k l st wv) (hb : Below W.heap.size W W') : BT d w W' g c k l st wv := by
  obtain ⟨L, h1, h2, h3, h5, h6⟩ := h
  exact ⟨L, h1.later' hb, h2, h3, h5, below2 h6 hb⟩
theorem OwnR.grownT {W W' : World} {B B' k k' : Nat} {e t : TypeId} {v v' : Value} {L L' : List (List Value)} (h : OwnR W B e k v L) (hO : OwnR W B' t k' v' L') (hte : t ≠ e) (hg : W.grownBy W' v'.ownBlock) : OwnR W' B e k v L := by
  obtain ⟨⟨h1, h2⟩, h3⟩ := h
  refine ⟨⟨h1, h2.imp id ?_⟩, h3⟩
  rintro ⟨g2, cap, cur, e1, e2, e3, e4⟩
  refine ⟨g2, cap, cur, e1, e2, ?_, e4⟩
  have hlt : g2 < W.heap.size := by
    by_cases hl : g2 < W.heap.size
    · exact hl
    · rw [Array.getElem?_eq_none (by omega)] at e3; cases e3
  refine (hg.block g2 hlt ?_).trans e3
  rcases hO.form with ⟨rfl, -⟩ | ⟨g', c', cur', rfl, -, e3', -⟩
  · simp [Value.ownBlock]
  · simp only [Value.ownBlock]
    intro he
    injection he with he
    subst he
    have := e3.symm.trans e3'
    simp at this; exact hte this.2.symm
theorem BT.grown {w W W' : World} {d g c k : Nat} {l : List StepD} {st : StepD} {wv v' : Value} {L' : List (List Value)} (h : BT d w W g c k l st wv) (hO : OwnR W (w.heap.size + d) 56 2 v' L') (hB : w.heap.size + d ≤ W.heap.size) (hg : W.grownBy W' v'.ownBlock) : BT d w W' g c k l st wv := by
  obtain ⟨L, h1, h2, h3, h5, h6⟩ := h
  exact ⟨L, h1.grownT hO (by decide) hg, h2, h3, h5, h6.trans ((below_own hO hB hg).mono (by omega))⟩
theorem BT.cell {w W : World} {d g c k : Nat} {l : List StepD} {st : StepD} {wv : Value} (h : BT d w W g c k l st wv) (hk : k < l.length) : W.cell? ⟨g, k * 4 + 3, none⟩ = some wv := by
  obtain ⟨L, h1, h2, h3, -⟩ := h
  exact h1.cell k 3 (by omega) (by omega) (by rw [h3]; rfl)
theorem BT.frozen {w W : World} {d g c k : Nat} {l : List StepD} {st : StepD} {wv : Value} (h : BT d w W g c k l st wv) (j : Nat) : W.frozen? ⟨g, j, none⟩ = false := by
  obtain ⟨L, h1, h2, -⟩ := h
  rw [← h2] at h1
  exact h1.frozen j
theorem BT.put {w W : World} {d g c k : Nat} {l : List StepD} {st st' : StepD} {wv wv' : Value} (h : BT d w W g c k l st wv) (hk : k < l.length) (hO : OwnR W (w.heap.size + d) 56 2 wv' (st'.wts.map wtCells)) (hs : st'.var = st.var ∧ st'.no = st.no ∧ st'.yes = st.yes) :
    BS d w (W.setCell ⟨g, k * 4 + 3, none⟩ wv') g c k l st' wv' := by
  obtain ⟨L, h1, h2, h3, h5, h6⟩ := h
  have hB : w.heap.size + d ≤ g := by
    rcases h1.form with ⟨e1, -⟩ | ⟨g', c', cur', e1, e2, -⟩
    · cases e1
    · injection e1 with h7 _ _; injection h7 with h7; injection h7 with h7; rw [h7]; omega
  have h1' : OwnR W (w.heap.size + d) 54 4 (.slice (some ⟨g, 0, none⟩) L.length c) L := by rw [h2]; exact h1
  have h7 := h1'.set k 3 (by omega) (by omega) wv'
  refine ⟨_, by rw [h2] at h7; exact h7, by simp [h2], ?_, hO.setT h1 (by decide) wv', fun i hi hik => ?_, h6.setCell (p := ⟨g, k * 4 + 3, none⟩) (by show w.heap.size ≤ g; omega) wv'⟩
  · rw [getD_set_eq' _ (by omega), h3]; unfold stepCells; rw [hs.1, hs.2.1, hs.2.2]; rfl
  · rw [getD_set_ne' _ hik]; exact h5 i hi hik
theorem step_app_t {W : World} {ops : Array Oper} {o : Oper} {T : Array Value} {D : List Deferred} {K : Act → World → Prop} {Q : Exit → Act → World → Prop} {E : Prop} {e t : TypeId} {k by_ : Nat} {z : Value}
    (hinfo : (Try.prog.info? e).map (fun i => (i.zero, i.size, i.bytes)) = some (some z, k, by_)) (hzk : z.cells.size = k) (hk : 0 < k) (hu : Try.prog.underlying t = some (.slice e)) (hgd : o.guard = none) (s x : Operand)
    (ho : o.op = .call { callee := .builtin .append, args := #[s, x], argTypes := #[t, t] }) (B : Nat) (v : Value) (L : List (List Value)) (hs : Act.eval ⟨T, D⟩ s = v) (hown : OwnR W B e k v L)
    (xa : Option Addr) (m c : Nat) (Lx : List (List Value)) (hm : m = Lx.length) (hx : Act.eval ⟨T, D⟩ x = .slice xa m c) (h6 : ∀ r ∈ Lx, r.length = k) (hone : ∀ u ∈ Lx.flatten, u.oneCell' = true)
    (hcells : ∀ b, xa = some b → ∀ j u, Lx.flatten[j]? = some u → W.cell? (b.add j) = some u) (hnone : xa = none → Lx = []) (hlen : (L.length + Lx.length) * by_ ≤ 140737488355328) (hlen2 : L.length + Lx.length < 1000000) (hB : B ≤ W.heap.size)
    (h : ∀ v' w', OwnR w' B e k v' (L ++ Lx) → W.grownBy w' v.ownBlock → K (Act.put ⟨T, D⟩ o.dst v') w') :
    if Region.wanted o (yielded ops T) = true then Oper.wp Try.prog o ⟨T, D⟩ W K Q else E :=
  step_app_recs2 (a := ⟨T, D⟩) hinfo hzk hk hu hgd s x ho B v L hs hown xa m c Lx hm hx h6 hone hcells hnone hlen hlen2 hB h
set_option maxRecDepth 100000 in
set_option maxHeartbeats 4000000 in
theorem bent_any (M : Nat) (l : List StepD) (lv : Value) (z : List Int) (w : World) (hs : StepsIn w.cell? lv l) (hll : l.length ≤ 10000) (hM : M ≤ 1000) (hok : OkL M l) (hz : z.length = 4) (hz64 : ∀ y ∈ z, i64B y) :
    Calls Try.prog 12 #[lv, .agg (z.map (Value.int .i64)).toArray] w (BentQ M l w) := by
  obtain ⟨z0, z1, z2, z3, rfl⟩ : ∃ z0 z1 z2 z3, z = [z0, z1, z2, z3] := by
    match z, hz with
    | [a, b, c, d], _ => exact ⟨_, _, _, _, rfl⟩
  have HP : Hid (∀ (x : Int), x ∈ [z0, z1, z2, z3] → ∀ (n : Int) (W : World), 0 < n → n ≤ 20000 → Calls Try.prog 37 #[.int .i64 x, .int .i64 n] W (fun e w' => e = .returned (.int .i64 (pickF x n)) ∧ w' = W)) :=
    hide fun x hx n W h1 h2 => pickq_any x n W (hz64 x hx).1 (hz64 x hx).2 h1 (by omega)
  obtain ⟨sa, sc, rfl, hsn, hsm, -⟩ := id hs
  obtain ⟨L, hL1, hL2, hL3, hL4, hL5, hL6⟩ := steps_list hs
  have H1 := hide hL1
  have H2 := hide hL2
  have H3 := hide hL3
  have H4 := hide hL4
  have H5 := hide hL5
  have H6 := hide hL6
  have HOK := hide hok
  clear hL1 hL2 hL3 hL4 hL5 hL6 hz64 hz hs hok hsn hsm
  by_cases hl0 : l.length = 0
  · have q0 : ((l.length : Int) == 0) = true := by simp [hl0]
    go_enter Try.func12, Try.ntmps12
    have tok : True := trivial
    go_wp2_with (at_builtin; have _t := tok; generalize hX1 : World.alloc w _ = X1; have bX1 : Below w.heap.size w X1 := (by rw [← hX1]; exact bal w _); have bZ : Blk X1 w.heap.size [.int .i64 z0, .int .i64 z1, .int .i64 z2, .int .i64 z3] 28 := (by rw [← hX1]; exact Blk.newA w _ rfl); have zX1 : X1.heap.size = w.heap.size + 1 := (by rw [← hX1]; simp); generalize hX2 : World.alloc X1 _ = X2; have bX2 : Below X1.heap.size X1 X2 := (by rw [← hX2]; exact bal X1 _); have b0 : Blk X2 X1.heap.size [] 54 := (by rw [← hX2]; exact Blk.newA X1 _ rfl); clear hX1 hX2; refine app_recs infoStep rfl (by decide) Try.underlying30 rfl _ _ rfl (w.heap.size + 1) _ [] (by first | rfl | rw [zX1]; rfl) (own_none b0 (by omega)) sa l.length sc L H1.out.symm rfl H2.out H3.out (fun b hb j u hj => keep (below2 bX1 bX2) (H4.out b hb j u hj)) H5.out (by rw [H1.out]; simp; omega) (by rw [H1.out]; simp; omega) (by have := bX2.size; omega) ?_; intro v3 W3 hO3 hg3; rw [List.nil_append] at hO3; have bZ3 : Blk W3 w.heap.size [.int .i64 z0, .int .i64 z1, .int .i64 z2, .int .i64 z3] 28 := (hg3.block _ (by have := bZ.lt; have := bX2.size; omega) (by simp [Value.ownBlock]; omega)).trans (bZ.later bX2); have hb3 : Below w.heap.size w W3 := below2 bX1 (bX2.grown hg3 bX2.size (fun k hk => by cases hk; exact Nat.le_refl _)); obtain ⟨a3, c3, rfl⟩ := own_form hO3 H1.out; have y0 := bZ3.cell 0 rfl; clear tok bX1 bX2 bZ zX1 b0 hg3)
    have hl' : l = [] := List.eq_nil_of_length_eq_zero hl0
    have hc3 : c3 ≤ 9223372036854775807 := by
      rcases hO3.form with ⟨e1, -⟩ | ⟨g', c', cur', e1, -, -, -, e5⟩
      · injection e1 with _ _ h8; omega
      · injection e1 with _ _ h8; unfold maxLen at e5; omega
    go_ret
    refine ⟨_, [], rfl, ⟨a3, c3, rfl, Nat.zero_le _, hc3, fun k hk => by simp at hk⟩, hb3, Nat.zero_le _, fun h => by omega, fun s hs => by cases hs⟩
  · have q0 : ((l.length : Int) == 0) = false := by simpa using hl0
    go_enter Try.func12, Try.ntmps12
    have tok : True := trivial
    go_wp2_with (at_builtin; have _t := tok; generalize hX1 : World.alloc w _ = X1; have bX1 : Below w.heap.size w X1 := (by rw [← hX1]; exact bal w _); have bZ : Blk X1 w.heap.size [.int .i64 z0, .int .i64 z1, .int .i64 z2, .int .i64 z3] 28 := (by rw [← hX1]; exact Blk.newA w _ rfl); have zX1 : X1.heap.size = w.heap.size + 1 := (by rw [← hX1]; simp); generalize hX2 : World.alloc X1 _ = X2; have bX2 : Below X1.heap.size X1 X2 := (by rw [← hX2]; exact bal X1 _); have b0 : Blk X2 X1.heap.size [] 54 := (by rw [← hX2]; exact Blk.newA X1 _ rfl); clear hX1 hX2; refine app_recs infoStep rfl (by decide) Try.underlying30 rfl _ _ rfl (w.heap.size + 1) _ [] (by first | rfl | rw [zX1]; rfl) (own_none b0 (by omega)) sa l.length sc L H1.out.symm rfl H2.out H3.out (fun b hb j u hj => keep (below2 bX1 bX2) (H4.out b hb j u hj)) H5.out (by rw [H1.out]; simp; omega) (by rw [H1.out]; simp; omega) (by have := bX2.size; omega) ?_; intro v3 W3 hO3 hg3; rw [List.nil_append] at hO3; have bZ3 : Blk W3 w.heap.size [.int .i64 z0, .int .i64 z1, .int .i64 z2, .int .i64 z3] 28 := (hg3.block _ (by have := bZ.lt; have := bX2.size; omega) (by simp [Value.ownBlock]; omega)).trans (bZ.later bX2); have hb3 : Below w.heap.size w W3 := below2 bX1 (bX2.grown hg3 bX2.size (fun k hk => by cases hk; exact Nat.le_refl _)); obtain ⟨a3, c3, rfl⟩ := own_form hO3 H1.out; have y0 := bZ3.cell 0 rfl; clear tok bX1 bX2 bZ zX1 b0 hg3)
    obtain ⟨g, rfl⟩ : ∃ g, a3 = some ⟨g, 0, none⟩ := by
      rcases hO3.form with ⟨-, e2⟩ | ⟨g', c', cur', e1, -⟩
      · have := H1.out; rw [e2] at this; exact absurd this.symm hl0
      · injection e1 with h7 _ _; exact ⟨g', h7⟩
    refine (HP.out z0 (by simp) l.length W3 (by omega) (by omega)).mono ?_
    rintro e w' ⟨rfl, rfl⟩
    obtain ⟨k, hk⟩ : ∃ k : Nat, pickF z0 l.length = (k : Int) := ⟨(pickF z0 l.length).toNat, by have := pickF_nonneg z0 (n := l.length) (by omega); omega⟩
    have hkl : k < l.length := by have := pickF_lt z0 (n := l.length) (by omega); omega
    rw [hk]
    obtain ⟨wv, eL, hWk⟩ := H6.out k hkl
    obtain ⟨wa, wn, rfl, hwc, hwe⟩ := wts_list hWk
    have HWC := hide hwc
    have HWE := hide hwe
    have hst := HOK.out (l.getD k st0) (getD_mem l k hkl)
    have hs3 := hO3.cell k 3 (by rw [H1.out]; exact hkl) (by omega) (by rw [eL]; rfl)
    have hwl : (l.getD k st0).wts.length ≤ 1000 := by omega
    have HST := hide hst
    have HO3 := hide hO3
    have hz1 : w.heap.size + 1 ≤ w'.heap.size := by have := bZ3.lt; omega
    have hgl : g < w'.heap.size := lt_of_cell hs3
    obtain ⟨S, hS⟩ : ∃ S, l.getD k st0 = S := ⟨_, rfl⟩
    rw [hS] at hs3 hwl HWC HWE HST
    have HS := hide hS
    clear hk hwc hwe hst hWk hS eL
    have tok2 : True := trivial
    go_upto_region 6 with (at_builtin; have _t := tok2; generalize hX4 : World.alloc w' _ = W4; have bX4 : Below w'.heap.size w' W4 := (by rw [← hX4]; exact bal w' _); have b1 : Blk W4 w'.heap.size [] 56 := (by rw [← hX4]; exact Blk.newA w' _ rfl); clear hX4; refine app_recs infoWt rfl (by decide) Try.underlying52 rfl _ _ rfl (w.heap.size + 1) _ [] rfl (own_none b1 hz1) wa S.wts.length wn (S.wts.map wtCells) (by simp) rfl (wts_two _).1 (wts_two _).2 (fun b hb j u hj => keep (below2 hb3 bX4) (HWC.out b hb j u hj)) HWE.out (by simp; omega) (by simp; omega) (by have := bX4.size; omega) ?_; intro v5 W5 hO5 hg5; rw [List.nil_append] at hO5; clear tok2; obtain ⟨a5, c5, rfl⟩ := own_form hO5 (n := S.wts.length) (by simp); have hb45 : Below w'.heap.size w' W5 := bX4.grown hg5 bX4.size (fun k hk => by cases hk; exact Nat.le_refl _); have hO35 := HO3.out.later' hb45; have y3 := hO35.cell k 3 (by rw [H1.out]; exact hkl) (by omega) (by rw [(H6.out k hkl).choose_spec.1]; rfl); have f3 := (show OwnR W5 (w.heap.size + 1) 54 4 (.slice (some ⟨g, 0, none⟩) L.length c3) L by rw [H1.out]; exact hO35).frozen (k * 4 + 3))
    have hb5 := below2 hb3 hb45
    have HBS : Hid (BS 1 w (W5.setCell ⟨g, k * 4 + 3, none⟩ (.slice a5 S.wts.length c5)) g c3 k l S (.slice a5 S.wts.length c5)) := hide (by
      have := BS.make hO35 H1.out hkl H6.out (by rw [HS.out]; exact hO5) hb5
      rw [HS.out] at this; exact this)
    have hgw := HBS.out.ne
    have bZ5 := (bZ3.later hb45).other (show w.heap.size ≠ g by omega) (k * 4 + 3) (.slice a5 S.wts.length c5)
    generalize World.setCell W5 ⟨g, k * 4 + 3, none⟩ (.slice a5 S.wts.length c5) = W6 at HBS bZ5 ⊢
    have z0c := bZ5.cell 0 rfl
    have z1c := bZ5.cell 1 rfl
    have z2c := bZ5.cell 2 rfl
    have z3c := bZ5.cell 3 rfl
    clear y0 y3 f3 hO35 hO5 hb45 hb5 hg5 HO3 HWC HWE H2 H3 H4 H5 bZ3 hb3 hO3 hs3 hz1 hgl
    go_wp2_with fail
    refine (HP.out z1 (by simp) 9 W6 (by omega) (by omega)).mono ?_
    rintro e w' ⟨rfl, hw⟩; obtain rfl := hw.symm
    obtain ⟨J, hJ⟩ : ∃ J : Nat, pickF z1 9 = (J : Int) := ⟨(pickF z1 9).toNat, by have := pickF_nonneg z1 (n := 9) (by omega); omega⟩
    have hJ9 : J < 9 := by have := pickF_lt z1 (n := 9) (by omega); omega
    rw [hJ]
    clear hJ
    have y0 : W6.cell? ⟨g, k * 4, none⟩ = some (.int .i64 S.var) := by simpa using HBS.out.cell hkl 0 (by omega) rfl
    have y1 := HBS.out.cell hkl 1 (by omega) rfl
    have y2 := HBS.out.cell hkl 2 (by omega) rfl
    have y3 := HBS.out.cell hkl 3 (by omega) rfl
    have f0 := HBS.out.frozen (k * 4)
    have f1 := HBS.out.frozen (k * 4 + 1)
    have f2 := HBS.out.frozen (k * 4 + 2)
    have hpk : ∀ (n : Int), 0 < n → 0 ≤ pickF z2 n ∧ pickF z2 n < n := fun n h => ⟨pickF_nonneg z2 h, pickF_lt z2 h⟩
    have HPK := hide hpk
    clear hpk
    have hlI : (l.length : Int) ≤ 10000 := by omega
    match J, hJ9 with
    | 0, _ =>
      go_wp2_with fail
      refine (HP.out z2 (by simp) 9 W6 (by omega) (by omega)).mono ?_
      rintro e w' ⟨rfl, hw⟩; obtain rfl := hw.symm
      have hp := HPK.out 9 (by omega)
      generalize pickF z2 9 = p at hp ⊢
      have e1 : IntKind.i64.wrap (p - 1) = p - 1 := IntWalk.i64_in _ ⟨by omega, by omega⟩
      have hfin := HBS.out.put hkl 0 (by omega) (.int .i64 (p - 1)) (st' := ⟨p - 1, S.no, S.yes, S.wts⟩) rfl rfl
      rw [Nat.add_zero] at hfin
      go_wp2_with fail
      go_ret
      exact ⟨_, _, rfl, hfin.steps hkl, hfin.hb, by rw [List.length_set]; exact Nat.le_refl _, fun h => by rw [List.length_set]; exact h, OkL.set HOK.out k (by have := HST.out.1; show S.wts.length ≤ M + 1; omega) HST.out.2⟩
    | 1, _ =>
      go_wp2_with fail
      refine (HP.out z2 (by simp) (l.length + 1) W6 (by omega) (by omega)).mono ?_
      rintro e w' ⟨rfl, hw⟩; obtain rfl := hw.symm
      generalize pickF z2 (l.length + 1) = p
      have hfin := HBS.out.put hkl 1 (by omega) (.int .i64 p) (st' := ⟨S.var, p, S.yes, S.wts⟩) rfl rfl
      go_wp2_with fail
      go_ret
      exact ⟨_, _, rfl, hfin.steps hkl, hfin.hb, by rw [List.length_set]; exact Nat.le_refl _, fun h => by rw [List.length_set]; exact h, OkL.set HOK.out k (by have := HST.out.1; show S.wts.length ≤ M + 1; omega) HST.out.2⟩
    | 2, _ =>
      go_wp2_with fail
      refine (HP.out z2 (by simp) (l.length + 1) W6 (by omega) (by omega)).mono ?_
      rintro e w' ⟨rfl, hw⟩; obtain rfl := hw.symm
      generalize pickF z2 (l.length + 1) = p
      have hfin := HBS.out.put hkl 2 (by omega) (.int .i64 p) (st' := ⟨S.var, S.no, p, S.wts⟩) rfl rfl
      go_wp2_with fail
      go_ret
      exact ⟨_, _, rfl, hfin.steps hkl, hfin.hb, by rw [List.length_set]; exact Nat.le_refl _, fun h => by rw [List.length_set]; exact h, OkL.set HOK.out k (by have := HST.out.1; show S.wts.length ≤ M + 1; omega) HST.out.2⟩
    | 3, _ =>
      by_cases hw0 : 0 < S.wts.length
      · have q3 : decide ((S.wts.length : Int) > 0) = true := decide_eq_true (by omega)
        go_upto_region 15 with fail
        obtain ⟨g5, rfl⟩ : ∃ g5, a5 = some ⟨g5, 0, none⟩ := by
          rcases HBS.out.wts.form with ⟨-, e2⟩ | ⟨g', c', cur', e1, -⟩
          · have h0 := congrArg List.length e2; simp at h0; rw [h0] at hw0; simp at hw0
          · injection e1 with h7 _ _; exact ⟨g', h7⟩
        have y6 := HBS.out.wts.cell 0 0 (by rw [List.length_map]; exact hw0) (by omega) (u := .int .i64 (S.wts.getD 0 (0, 0)).1) (by rw [wts_get0 hw0]; rfl)
        have y7 := HBS.out.wts.cell 0 1 (by rw [List.length_map]; exact hw0) (by omega) (u := .int .i64 (S.wts.getD 0 (0, 0)).2) (by rw [wts_get0 hw0]; rfl)
        have f6 := (show OwnR W6 (w.heap.size + 1) 56 2 (.slice (some ⟨g5, 0, none⟩) (S.wts.map wtCells).length c5) (S.wts.map wtCells) by rw [List.length_map]; exact HBS.out.wts).frozen 0
        have f7 := (show OwnR W6 (w.heap.size + 1) 56 2 (.slice (some ⟨g5, 0, none⟩) (S.wts.map wtCells).length c5) (S.wts.map wtCells) by rw [List.length_map]; exact HBS.out.wts).frozen 1
        simp only [Nat.zero_mul, Nat.zero_add] at y6 y7
        have hw1 : ((0 : Int) < S.wts.length) := by omega
        refine wp_region_still_tail 9 (by kernel_rfl) (by kernel_rfl) ?_
        simp only [List.take_succ_cons, List.take_zero, List.drop_succ_cons, List.drop_zero]
        repeat (with_reducible refine wpStill_step (fun K hK => ?_) ; go_simp ; with_reducible refine hK _ ?_ ; clear hK K)
        with_reducible refine wpStill_step (fun K hK => ?_)
        go_simp
        refine ⟨_, (HP.out z2 (by simp) 9 _ (by omega) (by omega)), ?_⟩
        with_reducible refine hK _ ?_
        clear hK K
        repeat (with_reducible refine wpStill_step (fun K hK => ?_) ; go_simp ; with_reducible refine hK _ ?_ ; clear hK K)
        refine wpStill_nil ?_
        generalize pickF z2 9 = p
        have hfin := HBS.out.drew.putW 0 (by omega) hw0 (.int .i64 p) (st' := ⟨S.var, S.no, S.yes, S.wts.set 0 (p, (S.wts.getD 0 (0, 0)).2)⟩) ⟨rfl, rfl, rfl⟩ (wts_set0 hw0 p)
        go_wp2_with fail
        go_ret
        have h1 : ∀ x : Int × Int, (S.wts.set 0 x).length ≤ M + 1 := fun x => by rw [List.length_set]; have := HST.out.1; omega
        have h2 : ∀ x : Int × Int, (-1 ≤ x.2 ∧ x.2 ≤ 1003) → ∀ q ∈ S.wts.set 0 x, -1 ≤ q.2 ∧ q.2 ≤ 1003 := fun x hx q hq => by
          rcases List.mem_or_eq_of_mem_set hq with h | rfl
          · exact HST.out.2 q h
          · exact hx
        exact ⟨_, _, rfl, hfin.steps hkl, hfin.hb, by rw [List.length_set]; exact Nat.le_refl _, fun h => by rw [List.length_set]; exact h, OkL.set HOK.out k (h1 _) (h2 (p, (S.wts.getD 0 (0, 0)).2) (HST.out.2 (S.wts.getD 0 (0, 0)) (wget hw0)))⟩
      · have q3 : decide ((S.wts.length : Int) > 0) = false := decide_eq_false (by omega)
        have hfin := HBS.out
        go_wp2_with fail
        go_ret
        exact ⟨_, _, rfl, hfin.steps hkl, hfin.hb, by rw [List.length_set]; exact Nat.le_refl _, fun h => by rw [List.length_set]; exact h, OkL.set HOK.out k (by have := HST.out.1; show S.wts.length ≤ M + 1; omega) HST.out.2⟩
    | 4, _ =>
      by_cases hw0 : 0 < S.wts.length
      · have q3 : decide ((S.wts.length : Int) > 0) = true := decide_eq_true (by omega)
        go_upto_region 18 with fail
        obtain ⟨g5, rfl⟩ : ∃ g5, a5 = some ⟨g5, 0, none⟩ := by
          rcases HBS.out.wts.form with ⟨-, e2⟩ | ⟨g', c', cur', e1, -⟩
          · have h0 := congrArg List.length e2; simp at h0; rw [h0] at hw0; simp at hw0
          · injection e1 with h7 _ _; exact ⟨g', h7⟩
        have y6 := HBS.out.wts.cell 0 0 (by rw [List.length_map]; exact hw0) (by omega) (u := .int .i64 (S.wts.getD 0 (0, 0)).1) (by rw [wts_get0 hw0]; rfl)
        have y7 := HBS.out.wts.cell 0 1 (by rw [List.length_map]; exact hw0) (by omega) (u := .int .i64 (S.wts.getD 0 (0, 0)).2) (by rw [wts_get0 hw0]; rfl)
        have f6 := (show OwnR W6 (w.heap.size + 1) 56 2 (.slice (some ⟨g5, 0, none⟩) (S.wts.map wtCells).length c5) (S.wts.map wtCells) by rw [List.length_map]; exact HBS.out.wts).frozen 0
        have f7 := (show OwnR W6 (w.heap.size + 1) 56 2 (.slice (some ⟨g5, 0, none⟩) (S.wts.map wtCells).length c5) (S.wts.map wtCells) by rw [List.length_map]; exact HBS.out.wts).frozen 1
        simp only [Nat.zero_mul, Nat.zero_add] at y6 y7
        have hw1 : ((0 : Int) < S.wts.length) := by omega
        have hp := HPK.out 1003 (by omega)
        refine wp_region_still_tail 10 (by kernel_rfl) (by kernel_rfl) ?_
        simp only [List.take_succ_cons, List.take_zero, List.drop_succ_cons, List.drop_zero]
        repeat (with_reducible refine wpStill_step (fun K hK => ?_) ; go_simp ; with_reducible refine hK _ ?_ ; clear hK K)
        with_reducible refine wpStill_step (fun K hK => ?_)
        go_simp
        refine ⟨_, (HP.out z2 (by simp) 1003 _ (by omega) (by omega)), ?_⟩
        with_reducible refine hK _ ?_
        clear hK K
        repeat (with_reducible refine wpStill_step (fun K hK => ?_) ; go_simp ; with_reducible refine hK _ ?_ ; clear hK K)
        generalize pickF z2 1003 = p at hp ⊢
        have e1 : IntKind.i64.wrap (p - 1) = p - 1 := IntWalk.i64_in _ ⟨by omega, by omega⟩
        repeat (with_reducible refine wpStill_step (fun K hK => ?_) ; go_simp ; with_reducible refine hK _ ?_ ; clear hK K)
        refine wpStill_nil ?_
        have hfin := HBS.out.drew.putW 1 (by omega) hw0 (.int .i64 (p - 1)) (st' := ⟨S.var, S.no, S.yes, S.wts.set 0 ((S.wts.getD 0 (0, 0)).1, p - 1)⟩) ⟨rfl, rfl, rfl⟩ (wts_set1 hw0 (p - 1))
        go_wp2_with fail
        go_ret
        have h1 : ∀ x : Int × Int, (S.wts.set 0 x).length ≤ M + 1 := fun x => by rw [List.length_set]; have := HST.out.1; omega
        have h2 : ∀ x : Int × Int, (-1 ≤ x.2 ∧ x.2 ≤ 1003) → ∀ q ∈ S.wts.set 0 x, -1 ≤ q.2 ∧ q.2 ≤ 1003 := fun x hx q hq => by
          rcases List.mem_or_eq_of_mem_set hq with h | rfl
          · exact HST.out.2 q h
          · exact hx
        exact ⟨_, _, rfl, hfin.steps hkl, hfin.hb, by rw [List.length_set]; exact Nat.le_refl _, fun h => by rw [List.length_set]; exact h, OkL.set HOK.out k (h1 _) (h2 ((S.wts.getD 0 (0, 0)).1, p - 1) ⟨by show -1 ≤ p - 1; omega, by show p - 1 ≤ 1003; omega⟩)⟩
      · have q3 : decide ((S.wts.length : Int) > 0) = false := decide_eq_false (by omega)
        have hfin := HBS.out
        go_wp2_with fail
        go_ret
        exact ⟨_, _, rfl, hfin.steps hkl, hfin.hb, by rw [List.length_set]; exact Nat.le_refl _, fun h => by rw [List.length_set]; exact h, OkL.set HOK.out k (by have := HST.out.1; show S.wts.length ≤ M + 1; omega) HST.out.2⟩
    | 5, _ =>
      go_upto_region 20 with fail
      have hp3 : 0 ≤ pickF z3 5 ∧ pickF z3 5 < 5 := ⟨pickF_nonneg z3 (by omega), pickF_lt z3 (by omega)⟩
      have HP2 := hide (fun W => HP.out z2 (by simp) 10 W (by omega) (by omega))
      have HP3 := hide (fun W => HP.out z3 (by simp) 5 W (by omega) (by omega))
      generalize pickF z2 10 = p at HP2 ⊢
      generalize pickF z3 5 = q at HP3 hp3 ⊢
      have e1 : IntKind.i64.wrap (1 + q) = 1 + q := IntWalk.i64_in _ ⟨by omega, by omega⟩
      have HZ := hide bZ5
      have hsz : w.heap.size + 1 ≤ W6.heap.size := by have := bZ5.lt; omega
      have hwl2 : (S.wts.map wtCells).length ≤ 1000 := by rw [List.length_map]; exact hwl
      clear z0c z1c z2c z3c bZ5 HP y0 y1 y2 y3 f0 f1 f2
      refine wp_region_inv [some 101, some 102, some 103, some 104, some 105, some 106, some 107, some 108, some 109, some 110, some 111, some 112, some 113, some 114, some 115, some 116, some 117, none] (fun L vs W => match vs with | [x0, x1, x2, x3, x4, x5, x6, x7, x8, x9, x10, x11, x12, x13, x14, x15, x16, x17] => (Below (w.heap.size + 1) W6 W ∧ (L 17 = false → BT 1 w W g c3 k l S (.slice a5 S.wts.length c5)) ∧ (L 14 = false → OwnR W (w.heap.size + 1) 56 2 (.slice a5 S.wts.length c5) (S.wts.map wtCells))) ∧ (L 0 = true → x0 = .pointer (some ⟨g, k * 4, none⟩)) ∧ (L 1 = true → x1 = .pointer (some ⟨g, k * 4, none⟩)) ∧ (L 2 = true → x2 = .pointer (some ⟨g, k * 4, none⟩)) ∧ (L 3 = true → x3 = .pointer (some ⟨g, k * 4 + 3, none⟩)) ∧ (L 4 = true → x4 = .slice a5 S.wts.length c5) ∧ (L 5 = true → x5 = .pointer (some ⟨w.heap.size, 2, none⟩)) ∧ (L 6 = true → x6 = .int .i64 z2) ∧ (L 7 = true → x7 = .int .i64 p) ∧ (L 8 = true → x8 = .pointer (some ⟨w.heap.size, 3, none⟩)) ∧ (L 9 = true → x9 = .int .i64 z3) ∧ (L 10 = true → x10 = .int .i64 q) ∧ (L 11 = true → x11 = .int .i64 (1 + q)) ∧ (L 12 = true → x12 = .agg #[.int .i64 p, .int .i64 (1 + q)]) ∧ (L 13 = true → L 14 = false → ∃ b8 : Nat, x13 = .slice (some ⟨b8, 0, none⟩) 1 1 ∧ Blk W b8 (wtCells (p, 1 + q)) 56) ∧ (L 14 = true → (L 4 = true ∧ L 13 = true) ∧ (L 17 = false → OwnR W (w.heap.size + 1) 56 2 x14 (S.wts.map wtCells ++ [wtCells (p, 1 + q)]))) ∧ (L 15 = true → x15 = .pointer (some ⟨g, k * 4, none⟩)) ∧ (L 16 = true → x16 = .pointer (some ⟨g, k * 4 + 3, none⟩)) ∧ (L 17 = true → (L 4 = true ∧ L 14 = true) ∧ ∃ wv, BS 1 w W g c3 k l ⟨S.var, S.no, S.yes, S.wts ++ [(p, 1 + q)]⟩ wv) | _ => False) [_, _, _, _, _, _, _, _, _, _, _, _, _, _, _, _, _, undef] (by kernel_rfl) (by kernel_rfl) rfl (by simp only [puts, Act.put, List.setIfInBounds_toArray, List.set_cons_zero, List.set_cons_succ] <;> rfl) ?_ ?_ ?_
      · exact ⟨⟨(Below.refl _ _).drew, fun _ => HBS.out.drew.bt, fun _ => HBS.out.drew.wts⟩, (fun h => by cases h), (fun h => by cases h), (fun h => by cases h), (fun h => by cases h), (fun h => by cases h), (fun h => by cases h), (fun h => by cases h), (fun h => by cases h), (fun h => by cases h), (fun h => by cases h), (fun h => by cases h), (fun h => by cases h), (fun h => by cases h), (fun h => by cases h), (fun h => by cases h), (fun h => by cases h), (fun h => by cases h), (fun h => by cases h)⟩
      · refine ⟨?_, ?_, ?_, ?_, ?_, ?_, ?_, ?_, ?_, ?_, ?_, ?_, ?_, ?_, ?_, ?_, ?_, ?_, trivial⟩
        · intro L vs W hlen hL hD hI K hK
          obtain ⟨x0, x1, x2, x3, x4, x5, x6, x7, x8, x9, x10, x11, x12, x13, x14, x15, x16, x17, rfl⟩ := len18 hlen
          have hG := hI.1
          replace hI := hI.2
          have f0 := hide hI.1
          replace hI := hI.2
          have f1 := hide hI.1
          replace hI := hI.2
          have f2 := hide hI.1
          replace hI := hI.2
          have f3 := hide hI.1
          replace hI := hI.2
          have f4 := hide hI.1
          replace hI := hI.2
          have f5 := hide hI.1
          replace hI := hI.2
          have f6 := hide hI.1
          replace hI := hI.2
          have f7 := hide hI.1
          replace hI := hI.2
          have f8 := hide hI.1
          replace hI := hI.2
          have f9 := hide hI.1
          replace hI := hI.2
          have f10 := hide hI.1
          replace hI := hI.2
          have f11 := hide hI.1
          replace hI := hI.2
          have f12 := hide hI.1
          replace hI := hI.2
          have f13 := hide hI.1
          replace hI := hI.2
          have f14 := hide hI.1
          replace hI := hI.2
          have f15 := hide hI.1
          replace hI := hI.2
          have f16 := hide hI.1
          replace hI := hI.2
          have f17 := hide hI
          clear hI
          have hGb := hG.1
          have hs1 := Nat.le_trans hsz hGb.size
          have bZW := HZ.out.below hGb (by omega)
          have z2c := bZW.cell 2 rfl
          have z3c := bZW.cell 3 rfl
          try simp only [puts, Act.put, List.setIfInBounds_toArray, List.set_cons_zero, List.set_cons_succ]
          try go_simp
          exact hK.out _ _ _ (by simp only [puts, Act.put, List.setIfInBounds_toArray, List.set_cons_zero, List.set_cons_succ] <;> rfl) ⟨hG, (fun _ => rfl), (fun h => f1.out h), (fun h => f2.out h), (fun h => f3.out h), (fun h => f4.out h), (fun h => f5.out h), (fun h => f6.out h), (fun h => f7.out h), (fun h => f8.out h), (fun h => f9.out h), (fun h => f10.out h), (fun h => f11.out h), (fun h => f12.out h), (fun h => f13.out h), (fun h => f14.out h), (fun h => f15.out h), (fun h => f16.out h), (fun h => f17.out h)⟩
        · intro L vs W hlen hL hD hI K hK
          obtain ⟨x0, x1, x2, x3, x4, x5, x6, x7, x8, x9, x10, x11, x12, x13, x14, x15, x16, x17, rfl⟩ := len18 hlen
          have hG := hI.1
          replace hI := hI.2
          have f0 := hide hI.1
          replace hI := hI.2
          have f1 := hide hI.1
          replace hI := hI.2
          have f2 := hide hI.1
          replace hI := hI.2
          have f3 := hide hI.1
          replace hI := hI.2
          have f4 := hide hI.1
          replace hI := hI.2
          have f5 := hide hI.1
          replace hI := hI.2
          have f6 := hide hI.1
          replace hI := hI.2
          have f7 := hide hI.1
          replace hI := hI.2
          have f8 := hide hI.1
          replace hI := hI.2
          have f9 := hide hI.1
          replace hI := hI.2
          have f10 := hide hI.1
          replace hI := hI.2
          have f11 := hide hI.1
          replace hI := hI.2
          have f12 := hide hI.1
          replace hI := hI.2
          have f13 := hide hI.1
          replace hI := hI.2
          have f14 := hide hI.1
          replace hI := hI.2
          have f15 := hide hI.1
          replace hI := hI.2
          have f16 := hide hI.1
          replace hI := hI.2
          have f17 := hide hI
          clear hI
          have hGb := hG.1
          have hs1 := Nat.le_trans hsz hGb.size
          have bZW := HZ.out.below hGb (by omega)
          have z2c := bZW.cell 2 rfl
          have z3c := bZW.cell 3 rfl
          try simp only [puts, Act.put, List.setIfInBounds_toArray, List.set_cons_zero, List.set_cons_succ]
          try go_simp
          exact hK.out _ _ _ (by simp only [puts, Act.put, List.setIfInBounds_toArray, List.set_cons_zero, List.set_cons_succ] <;> rfl) ⟨hG, (fun h => f0.out h), (fun _ => rfl), (fun h => f2.out h), (fun h => f3.out h), (fun h => f4.out h), (fun h => f5.out h), (fun h => f6.out h), (fun h => f7.out h), (fun h => f8.out h), (fun h => f9.out h), (fun h => f10.out h), (fun h => f11.out h), (fun h => f12.out h), (fun h => f13.out h), (fun h => f14.out h), (fun h => f15.out h), (fun h => f16.out h), (fun h => f17.out h)⟩
        · intro L vs W hlen hL hD hI K hK
          obtain ⟨x0, x1, x2, x3, x4, x5, x6, x7, x8, x9, x10, x11, x12, x13, x14, x15, x16, x17, rfl⟩ := len18 hlen
          have hG := hI.1
          replace hI := hI.2
          have f0 := hide hI.1
          replace hI := hI.2
          have f1 := hide hI.1
          replace hI := hI.2
          have f2 := hide hI.1
          replace hI := hI.2
          have f3 := hide hI.1
          replace hI := hI.2
          have f4 := hide hI.1
          replace hI := hI.2
          have f5 := hide hI.1
          replace hI := hI.2
          have f6 := hide hI.1
          replace hI := hI.2
          have f7 := hide hI.1
          replace hI := hI.2
          have f8 := hide hI.1
          replace hI := hI.2
          have f9 := hide hI.1
          replace hI := hI.2
          have f10 := hide hI.1
          replace hI := hI.2
          have f11 := hide hI.1
          replace hI := hI.2
          have f12 := hide hI.1
          replace hI := hI.2
          have f13 := hide hI.1
          replace hI := hI.2
          have f14 := hide hI.1
          replace hI := hI.2
          have f15 := hide hI.1
          replace hI := hI.2
          have f16 := hide hI.1
          replace hI := hI.2
          have f17 := hide hI
          clear hI
          have hGb := hG.1
          have hs1 := Nat.le_trans hsz hGb.size
          have bZW := HZ.out.below hGb (by omega)
          have z2c := bZW.cell 2 rfl
          have z3c := bZW.cell 3 rfl
          obtain rfl := f1.out (hD.on 1 (by kernel_rfl))
          try simp only [puts, Act.put, List.setIfInBounds_toArray, List.set_cons_zero, List.set_cons_succ]
          try go_simp
          exact hK.out _ _ _ (by simp only [puts, Act.put, List.setIfInBounds_toArray, List.set_cons_zero, List.set_cons_succ] <;> rfl) ⟨hG, (fun h => f0.out h), (fun h => f1.out h), (fun _ => rfl), (fun h => f3.out h), (fun h => f4.out h), (fun h => f5.out h), (fun h => f6.out h), (fun h => f7.out h), (fun h => f8.out h), (fun h => f9.out h), (fun h => f10.out h), (fun h => f11.out h), (fun h => f12.out h), (fun h => f13.out h), (fun h => f14.out h), (fun h => f15.out h), (fun h => f16.out h), (fun h => f17.out h)⟩
        · intro L vs W hlen hL hD hI K hK
          obtain ⟨x0, x1, x2, x3, x4, x5, x6, x7, x8, x9, x10, x11, x12, x13, x14, x15, x16, x17, rfl⟩ := len18 hlen
          have hG := hI.1
          replace hI := hI.2
          have f0 := hide hI.1
          replace hI := hI.2
          have f1 := hide hI.1
          replace hI := hI.2
          have f2 := hide hI.1
          replace hI := hI.2
          have f3 := hide hI.1
          replace hI := hI.2
          have f4 := hide hI.1
          replace hI := hI.2
          have f5 := hide hI.1
          replace hI := hI.2
          have f6 := hide hI.1
          replace hI := hI.2
          have f7 := hide hI.1
          replace hI := hI.2
          have f8 := hide hI.1
          replace hI := hI.2
          have f9 := hide hI.1
          replace hI := hI.2
          have f10 := hide hI.1
          replace hI := hI.2
          have f11 := hide hI.1
          replace hI := hI.2
          have f12 := hide hI.1
          replace hI := hI.2
          have f13 := hide hI.1
          replace hI := hI.2
          have f14 := hide hI.1
          replace hI := hI.2
          have f15 := hide hI.1
          replace hI := hI.2
          have f16 := hide hI.1
          replace hI := hI.2
          have f17 := hide hI
          clear hI
          have hGb := hG.1
          have hs1 := Nat.le_trans hsz hGb.size
          have bZW := HZ.out.below hGb (by omega)
          have z2c := bZW.cell 2 rfl
          have z3c := bZW.cell 3 rfl
          obtain rfl := f2.out (hD.on 2 (by kernel_rfl))
          try simp only [puts, Act.put, List.setIfInBounds_toArray, List.set_cons_zero, List.set_cons_succ]
          try go_simp
          exact hK.out _ _ _ (by simp only [puts, Act.put, List.setIfInBounds_toArray, List.set_cons_zero, List.set_cons_succ] <;> rfl) ⟨hG, (fun h => f0.out h), (fun h => f1.out h), (fun h => f2.out h), (fun _ => rfl), (fun h => f4.out h), (fun h => f5.out h), (fun h => f6.out h), (fun h => f7.out h), (fun h => f8.out h), (fun h => f9.out h), (fun h => f10.out h), (fun h => f11.out h), (fun h => f12.out h), (fun h => f13.out h), (fun h => f14.out h), (fun h => f15.out h), (fun h => f16.out h), (fun h => f17.out h)⟩
        · intro L vs W hlen hL hD hI K hK
          obtain ⟨x0, x1, x2, x3, x4, x5, x6, x7, x8, x9, x10, x11, x12, x13, x14, x15, x16, x17, rfl⟩ := len18 hlen
          have hG := hI.1
          replace hI := hI.2
          have f0 := hide hI.1
          replace hI := hI.2
          have f1 := hide hI.1
          replace hI := hI.2
          have f2 := hide hI.1
          replace hI := hI.2
          have f3 := hide hI.1
          replace hI := hI.2
          have f4 := hide hI.1
          replace hI := hI.2
          have f5 := hide hI.1
          replace hI := hI.2
          have f6 := hide hI.1
          replace hI := hI.2
          have f7 := hide hI.1
          replace hI := hI.2
          have f8 := hide hI.1
          replace hI := hI.2
          have f9 := hide hI.1
          replace hI := hI.2
          have f10 := hide hI.1
          replace hI := hI.2
          have f11 := hide hI.1
          replace hI := hI.2
          have f12 := hide hI.1
          replace hI := hI.2
          have f13 := hide hI.1
          replace hI := hI.2
          have f14 := hide hI.1
          replace hI := hI.2
          have f15 := hide hI.1
          replace hI := hI.2
          have f16 := hide hI.1
          replace hI := hI.2
          have f17 := hide hI
          clear hI
          have hGb := hG.1
          have hs1 := Nat.le_trans hsz hGb.size
          have bZW := HZ.out.below hGb (by omega)
          have z2c := bZW.cell 2 rfl
          have z3c := bZW.cell 3 rfl
          obtain rfl := f3.out (hD.on 3 (by kernel_rfl))
          try simp only [puts, Act.put, List.setIfInBounds_toArray, List.set_cons_zero, List.set_cons_succ]
          have h17 : L 17 = false := Bool.eq_false_iff.2 (fun h => absurd ((f17.out h).1.1.symm.trans hL) (by decide))
          have y3 := (hG.2.1 h17).cell hkl
          go_simp
          exact hK.out _ _ _ (by simp only [puts, Act.put, List.setIfInBounds_toArray, List.set_cons_zero, List.set_cons_succ] <;> rfl) ⟨hG, (fun h => f0.out h), (fun h => f1.out h), (fun h => f2.out h), (fun h => f3.out h), (fun _ => rfl), (fun h => f5.out h), (fun h => f6.out h), (fun h => f7.out h), (fun h => f8.out h), (fun h => f9.out h), (fun h => f10.out h), (fun h => f11.out h), (fun h => f12.out h), (fun h => f13.out h), (fun h => (fun h => ⟨⟨rfl, h.1.2⟩, h.2⟩) (f14.out h)), (fun h => f15.out h), (fun h => f16.out h), (fun h => (fun h => ⟨⟨rfl, h.1.2⟩, h.2⟩) (f17.out h))⟩
        · intro L vs W hlen hL hD hI K hK
          obtain ⟨x0, x1, x2, x3, x4, x5, x6, x7, x8, x9, x10, x11, x12, x13, x14, x15, x16, x17, rfl⟩ := len18 hlen
          have hG := hI.1
          replace hI := hI.2
          have f0 := hide hI.1
          replace hI := hI.2
          have f1 := hide hI.1
          replace hI := hI.2
          have f2 := hide hI.1
          replace hI := hI.2
          have f3 := hide hI.1
          replace hI := hI.2
          have f4 := hide hI.1
          replace hI := hI.2
          have f5 := hide hI.1
          replace hI := hI.2
          have f6 := hide hI.1
          replace hI := hI.2
          have f7 := hide hI.1
          replace hI := hI.2
          have f8 := hide hI.1
          replace hI := hI.2
          have f9 := hide hI.1
          replace hI := hI.2
          have f10 := hide hI.1
          replace hI := hI.2
          have f11 := hide hI.1
          replace hI := hI.2
          have f12 := hide hI.1
          replace hI := hI.2
          have f13 := hide hI.1
          replace hI := hI.2
          have f14 := hide hI.1
          replace hI := hI.2
          have f15 := hide hI.1
          replace hI := hI.2
          have f16 := hide hI.1
          replace hI := hI.2
          have f17 := hide hI
          clear hI
          have hGb := hG.1
          have hs1 := Nat.le_trans hsz hGb.size
          have bZW := HZ.out.below hGb (by omega)
          have z2c := bZW.cell 2 rfl
          have z3c := bZW.cell 3 rfl
          try simp only [puts, Act.put, List.setIfInBounds_toArray, List.set_cons_zero, List.set_cons_succ]
          try go_simp
          exact hK.out _ _ _ (by simp only [puts, Act.put, List.setIfInBounds_toArray, List.set_cons_zero, List.set_cons_succ] <;> rfl) ⟨hG, (fun h => f0.out h), (fun h => f1.out h), (fun h => f2.out h), (fun h => f3.out h), (fun h => f4.out h), (fun _ => rfl), (fun h => f6.out h), (fun h => f7.out h), (fun h => f8.out h), (fun h => f9.out h), (fun h => f10.out h), (fun h => f11.out h), (fun h => f12.out h), (fun h => f13.out h), (fun h => f14.out h), (fun h => f15.out h), (fun h => f16.out h), (fun h => f17.out h)⟩
        · intro L vs W hlen hL hD hI K hK
          obtain ⟨x0, x1, x2, x3, x4, x5, x6, x7, x8, x9, x10, x11, x12, x13, x14, x15, x16, x17, rfl⟩ := len18 hlen
          have hG := hI.1
          replace hI := hI.2
          have f0 := hide hI.1
          replace hI := hI.2
          have f1 := hide hI.1
          replace hI := hI.2
          have f2 := hide hI.1
          replace hI := hI.2
          have f3 := hide hI.1
          replace hI := hI.2
          have f4 := hide hI.1
          replace hI := hI.2
          have f5 := hide hI.1
          replace hI := hI.2
          have f6 := hide hI.1
          replace hI := hI.2
          have f7 := hide hI.1
          replace hI := hI.2
          have f8 := hide hI.1
          replace hI := hI.2
          have f9 := hide hI.1
          replace hI := hI.2
          have f10 := hide hI.1
          replace hI := hI.2
          have f11 := hide hI.1
          replace hI := hI.2
          have f12 := hide hI.1
          replace hI := hI.2
          have f13 := hide hI.1
          replace hI := hI.2
          have f14 := hide hI.1
          replace hI := hI.2
          have f15 := hide hI.1
          replace hI := hI.2
          have f16 := hide hI.1
          replace hI := hI.2
          have f17 := hide hI
          clear hI
          have hGb := hG.1
          have hs1 := Nat.le_trans hsz hGb.size
          have bZW := HZ.out.below hGb (by omega)
          have z2c := bZW.cell 2 rfl
          have z3c := bZW.cell 3 rfl
          obtain rfl := f5.out (hD.on 5 (by kernel_rfl))
          try simp only [puts, Act.put, List.setIfInBounds_toArray, List.set_cons_zero, List.set_cons_succ]
          try go_simp
          exact hK.out _ _ _ (by simp only [puts, Act.put, List.setIfInBounds_toArray, List.set_cons_zero, List.set_cons_succ] <;> rfl) ⟨hG, (fun h => f0.out h), (fun h => f1.out h), (fun h => f2.out h), (fun h => f3.out h), (fun h => f4.out h), (fun h => f5.out h), (fun _ => rfl), (fun h => f7.out h), (fun h => f8.out h), (fun h => f9.out h), (fun h => f10.out h), (fun h => f11.out h), (fun h => f12.out h), (fun h => f13.out h), (fun h => f14.out h), (fun h => f15.out h), (fun h => f16.out h), (fun h => f17.out h)⟩
        · intro L vs W hlen hL hD hI K hK
          obtain ⟨x0, x1, x2, x3, x4, x5, x6, x7, x8, x9, x10, x11, x12, x13, x14, x15, x16, x17, rfl⟩ := len18 hlen
          have hG := hI.1
          replace hI := hI.2
          have f0 := hide hI.1
          replace hI := hI.2
          have f1 := hide hI.1
          replace hI := hI.2
          have f2 := hide hI.1
          replace hI := hI.2
          have f3 := hide hI.1
          replace hI := hI.2
          have f4 := hide hI.1
          replace hI := hI.2
          have f5 := hide hI.1
          replace hI := hI.2
          have f6 := hide hI.1
          replace hI := hI.2
          have f7 := hide hI.1
          replace hI := hI.2
          have f8 := hide hI.1
          replace hI := hI.2
          have f9 := hide hI.1
          replace hI := hI.2
          have f10 := hide hI.1
          replace hI := hI.2
          have f11 := hide hI.1
          replace hI := hI.2
          have f12 := hide hI.1
          replace hI := hI.2
          have f13 := hide hI.1
          replace hI := hI.2
          have f14 := hide hI.1
          replace hI := hI.2
          have f15 := hide hI.1
          replace hI := hI.2
          have f16 := hide hI.1
          replace hI := hI.2
          have f17 := hide hI
          clear hI
          have hGb := hG.1
          have hs1 := Nat.le_trans hsz hGb.size
          have bZW := HZ.out.below hGb (by omega)
          have z2c := bZW.cell 2 rfl
          have z3c := bZW.cell 3 rfl
          obtain rfl := f6.out (hD.on 6 (by kernel_rfl))
          try simp only [puts, Act.put, List.setIfInBounds_toArray, List.set_cons_zero, List.set_cons_succ]
          try go_simp
          refine (HP2.out _).mono ?_
          rintro e W' ⟨rfl, rfl⟩
          try go_simp
          exact hK.out _ _ _ (by simp only [puts, Act.put, List.setIfInBounds_toArray, List.set_cons_zero, List.set_cons_succ] <;> rfl) ⟨hG, (fun h => f0.out h), (fun h => f1.out h), (fun h => f2.out h), (fun h => f3.out h), (fun h => f4.out h), (fun h => f5.out h), (fun h => f6.out h), (fun _ => rfl), (fun h => f8.out h), (fun h => f9.out h), (fun h => f10.out h), (fun h => f11.out h), (fun h => f12.out h), (fun h => f13.out h), (fun h => f14.out h), (fun h => f15.out h), (fun h => f16.out h), (fun h => f17.out h)⟩
        · intro L vs W hlen hL hD hI K hK
          obtain ⟨x0, x1, x2, x3, x4, x5, x6, x7, x8, x9, x10, x11, x12, x13, x14, x15, x16, x17, rfl⟩ := len18 hlen
          have hG := hI.1
          replace hI := hI.2
          have f0 := hide hI.1
          replace hI := hI.2
          have f1 := hide hI.1
          replace hI := hI.2
          have f2 := hide hI.1
          replace hI := hI.2
          have f3 := hide hI.1
          replace hI := hI.2
          have f4 := hide hI.1
          replace hI := hI.2
          have f5 := hide hI.1
          replace hI := hI.2
          have f6 := hide hI.1
          replace hI := hI.2
          have f7 := hide hI.1
          replace hI := hI.2
          have f8 := hide hI.1
          replace hI := hI.2
          have f9 := hide hI.1
          replace hI := hI.2
          have f10 := hide hI.1
          replace hI := hI.2
          have f11 := hide hI.1
          replace hI := hI.2
          have f12 := hide hI.1
          replace hI := hI.2
          have f13 := hide hI.1
          replace hI := hI.2
          have f14 := hide hI.1
          replace hI := hI.2
          have f15 := hide hI.1
          replace hI := hI.2
          have f16 := hide hI.1
          replace hI := hI.2
          have f17 := hide hI
          clear hI
          have hGb := hG.1
          have hs1 := Nat.le_trans hsz hGb.size
          have bZW := HZ.out.below hGb (by omega)
          have z2c := bZW.cell 2 rfl
          have z3c := bZW.cell 3 rfl
          try simp only [puts, Act.put, List.setIfInBounds_toArray, List.set_cons_zero, List.set_cons_succ]
          try go_simp
          exact hK.out _ _ _ (by simp only [puts, Act.put, List.setIfInBounds_toArray, List.set_cons_zero, List.set_cons_succ] <;> rfl) ⟨hG, (fun h => f0.out h), (fun h => f1.out h), (fun h => f2.out h), (fun h => f3.out h), (fun h => f4.out h), (fun h => f5.out h), (fun h => f6.out h), (fun h => f7.out h), (fun _ => rfl), (fun h => f9.out h), (fun h => f10.out h), (fun h => f11.out h), (fun h => f12.out h), (fun h => f13.out h), (fun h => f14.out h), (fun h => f15.out h), (fun h => f16.out h), (fun h => f17.out h)⟩
        · intro L vs W hlen hL hD hI K hK
          obtain ⟨x0, x1, x2, x3, x4, x5, x6, x7, x8, x9, x10, x11, x12, x13, x14, x15, x16, x17, rfl⟩ := len18 hlen
          have hG := hI.1
          replace hI := hI.2
          have f0 := hide hI.1
          replace hI := hI.2
          have f1 := hide hI.1
          replace hI := hI.2
          have f2 := hide hI.1
          replace hI := hI.2
          have f3 := hide hI.1
          replace hI := hI.2
          have f4 := hide hI.1
          replace hI := hI.2
          have f5 := hide hI.1
          replace hI := hI.2
          have f6 := hide hI.1
          replace hI := hI.2
          have f7 := hide hI.1
          replace hI := hI.2
          have f8 := hide hI.1
          replace hI := hI.2
          have f9 := hide hI.1
          replace hI := hI.2
          have f10 := hide hI.1
          replace hI := hI.2
          have f11 := hide hI.1
          replace hI := hI.2
          have f12 := hide hI.1
          replace hI := hI.2
          have f13 := hide hI.1
          replace hI := hI.2
          have f14 := hide hI.1
          replace hI := hI.2
          have f15 := hide hI.1
          replace hI := hI.2
          have f16 := hide hI.1
          replace hI := hI.2
          have f17 := hide hI
          clear hI
          have hGb := hG.1
          have hs1 := Nat.le_trans hsz hGb.size
          have bZW := HZ.out.below hGb (by omega)
          have z2c := bZW.cell 2 rfl
          have z3c := bZW.cell 3 rfl
          obtain rfl := f8.out (hD.on 8 (by kernel_rfl))
          try simp only [puts, Act.put, List.setIfInBounds_toArray, List.set_cons_zero, List.set_cons_succ]
          try go_simp
          exact hK.out _ _ _ (by simp only [puts, Act.put, List.setIfInBounds_toArray, List.set_cons_zero, List.set_cons_succ] <;> rfl) ⟨hG, (fun h => f0.out h), (fun h => f1.out h), (fun h => f2.out h), (fun h => f3.out h), (fun h => f4.out h), (fun h => f5.out h), (fun h => f6.out h), (fun h => f7.out h), (fun h => f8.out h), (fun _ => rfl), (fun h => f10.out h), (fun h => f11.out h), (fun h => f12.out h), (fun h => f13.out h), (fun h => f14.out h), (fun h => f15.out h), (fun h => f16.out h), (fun h => f17.out h)⟩
        · intro L vs W hlen hL hD hI K hK
          obtain ⟨x0, x1, x2, x3, x4, x5, x6, x7, x8, x9, x10, x11, x12, x13, x14, x15, x16, x17, rfl⟩ := len18 hlen
          have hG := hI.1
          replace hI := hI.2
          have f0 := hide hI.1
          replace hI := hI.2
          have f1 := hide hI.1
          replace hI := hI.2
          have f2 := hide hI.1
          replace hI := hI.2
          have f3 := hide hI.1
          replace hI := hI.2
          have f4 := hide hI.1
          replace hI := hI.2
          have f5 := hide hI.1
          replace hI := hI.2
          have f6 := hide hI.1
          replace hI := hI.2
          have f7 := hide hI.1
          replace hI := hI.2
          have f8 := hide hI.1
          replace hI := hI.2
          have f9 := hide hI.1
          replace hI := hI.2
          have f10 := hide hI.1
          replace hI := hI.2
          have f11 := hide hI.1
          replace hI := hI.2
          have f12 := hide hI.1
          replace hI := hI.2
          have f13 := hide hI.1
          replace hI := hI.2
          have f14 := hide hI.1
          replace hI := hI.2
          have f15 := hide hI.1
          replace hI := hI.2
          have f16 := hide hI.1
          replace hI := hI.2
          have f17 := hide hI
          clear hI
          have hGb := hG.1
          have hs1 := Nat.le_trans hsz hGb.size
          have bZW := HZ.out.below hGb (by omega)
          have z2c := bZW.cell 2 rfl
          have z3c := bZW.cell 3 rfl
          obtain rfl := f9.out (hD.on 9 (by kernel_rfl))
          try simp only [puts, Act.put, List.setIfInBounds_toArray, List.set_cons_zero, List.set_cons_succ]
          try go_simp
          refine (HP3.out _).mono ?_
          rintro e W' ⟨rfl, rfl⟩
          try go_simp
          exact hK.out _ _ _ (by simp only [puts, Act.put, List.setIfInBounds_toArray, List.set_cons_zero, List.set_cons_succ] <;> rfl) ⟨hG, (fun h => f0.out h), (fun h => f1.out h), (fun h => f2.out h), (fun h => f3.out h), (fun h => f4.out h), (fun h => f5.out h), (fun h => f6.out h), (fun h => f7.out h), (fun h => f8.out h), (fun h => f9.out h), (fun _ => rfl), (fun h => f11.out h), (fun h => f12.out h), (fun h => f13.out h), (fun h => f14.out h), (fun h => f15.out h), (fun h => f16.out h), (fun h => f17.out h)⟩
        · intro L vs W hlen hL hD hI K hK
          obtain ⟨x0, x1, x2, x3, x4, x5, x6, x7, x8, x9, x10, x11, x12, x13, x14, x15, x16, x17, rfl⟩ := len18 hlen
          have hG := hI.1
          replace hI := hI.2
          have f0 := hide hI.1
          replace hI := hI.2
          have f1 := hide hI.1
          replace hI := hI.2
          have f2 := hide hI.1
          replace hI := hI.2
          have f3 := hide hI.1
          replace hI := hI.2
          have f4 := hide hI.1
          replace hI := hI.2
          have f5 := hide hI.1
          replace hI := hI.2
          have f6 := hide hI.1
          replace hI := hI.2
          have f7 := hide hI.1
          replace hI := hI.2
          have f8 := hide hI.1
          replace hI := hI.2
          have f9 := hide hI.1
          replace hI := hI.2
          have f10 := hide hI.1
          replace hI := hI.2
          have f11 := hide hI.1
          replace hI := hI.2
          have f12 := hide hI.1
          replace hI := hI.2
          have f13 := hide hI.1
          replace hI := hI.2
          have f14 := hide hI.1
          replace hI := hI.2
          have f15 := hide hI.1
          replace hI := hI.2
          have f16 := hide hI.1
          replace hI := hI.2
          have f17 := hide hI
          clear hI
          have hGb := hG.1
          have hs1 := Nat.le_trans hsz hGb.size
          have bZW := HZ.out.below hGb (by omega)
          have z2c := bZW.cell 2 rfl
          have z3c := bZW.cell 3 rfl
          obtain rfl := f10.out (hD.on 10 (by kernel_rfl))
          try simp only [puts, Act.put, List.setIfInBounds_toArray, List.set_cons_zero, List.set_cons_succ]
          try go_simp
          exact hK.out _ _ _ (by simp only [puts, Act.put, List.setIfInBounds_toArray, List.set_cons_zero, List.set_cons_succ] <;> rfl) ⟨hG, (fun h => f0.out h), (fun h => f1.out h), (fun h => f2.out h), (fun h => f3.out h), (fun h => f4.out h), (fun h => f5.out h), (fun h => f6.out h), (fun h => f7.out h), (fun h => f8.out h), (fun h => f9.out h), (fun h => f10.out h), (fun _ => rfl), (fun h => f12.out h), (fun h => f13.out h), (fun h => f14.out h), (fun h => f15.out h), (fun h => f16.out h), (fun h => f17.out h)⟩
        · intro L vs W hlen hL hD hI K hK
          obtain ⟨x0, x1, x2, x3, x4, x5, x6, x7, x8, x9, x10, x11, x12, x13, x14, x15, x16, x17, rfl⟩ := len18 hlen
          have hG := hI.1
          replace hI := hI.2
          have f0 := hide hI.1
          replace hI := hI.2
          have f1 := hide hI.1
          replace hI := hI.2
          have f2 := hide hI.1
          replace hI := hI.2
          have f3 := hide hI.1
          replace hI := hI.2
          have f4 := hide hI.1
          replace hI := hI.2
          have f5 := hide hI.1
          replace hI := hI.2
          have f6 := hide hI.1
          replace hI := hI.2
          have f7 := hide hI.1
          replace hI := hI.2
          have f8 := hide hI.1
          replace hI := hI.2
          have f9 := hide hI.1
          replace hI := hI.2
          have f10 := hide hI.1
          replace hI := hI.2
          have f11 := hide hI.1
          replace hI := hI.2
          have f12 := hide hI.1
          replace hI := hI.2
          have f13 := hide hI.1
          replace hI := hI.2
          have f14 := hide hI.1
          replace hI := hI.2
          have f15 := hide hI.1
          replace hI := hI.2
          have f16 := hide hI.1
          replace hI := hI.2
          have f17 := hide hI
          clear hI
          have hGb := hG.1
          have hs1 := Nat.le_trans hsz hGb.size
          have bZW := HZ.out.below hGb (by omega)
          have z2c := bZW.cell 2 rfl
          have z3c := bZW.cell 3 rfl
          obtain rfl := f7.out (hD.on 7 (by kernel_rfl))
          obtain rfl := f11.out (hD.on 11 (by kernel_rfl))
          try simp only [puts, Act.put, List.setIfInBounds_toArray, List.set_cons_zero, List.set_cons_succ]
          try go_simp
          exact hK.out _ _ _ (by simp only [puts, Act.put, List.setIfInBounds_toArray, List.set_cons_zero, List.set_cons_succ] <;> rfl) ⟨hG, (fun h => f0.out h), (fun h => f1.out h), (fun h => f2.out h), (fun h => f3.out h), (fun h => f4.out h), (fun h => f5.out h), (fun h => f6.out h), (fun h => f7.out h), (fun h => f8.out h), (fun h => f9.out h), (fun h => f10.out h), (fun h => f11.out h), (fun _ => rfl), (fun h => f13.out h), (fun h => f14.out h), (fun h => f15.out h), (fun h => f16.out h), (fun h => f17.out h)⟩
        · intro L vs W hlen hL hD hI K hK
          obtain ⟨x0, x1, x2, x3, x4, x5, x6, x7, x8, x9, x10, x11, x12, x13, x14, x15, x16, x17, rfl⟩ := len18 hlen
          have hG := hI.1
          replace hI := hI.2
          have f0 := hide hI.1
          replace hI := hI.2
          have f1 := hide hI.1
          replace hI := hI.2
          have f2 := hide hI.1
          replace hI := hI.2
          have f3 := hide hI.1
          replace hI := hI.2
          have f4 := hide hI.1
          replace hI := hI.2
          have f5 := hide hI.1
          replace hI := hI.2
          have f6 := hide hI.1
          replace hI := hI.2
          have f7 := hide hI.1
          replace hI := hI.2
          have f8 := hide hI.1
          replace hI := hI.2
          have f9 := hide hI.1
          replace hI := hI.2
          have f10 := hide hI.1
          replace hI := hI.2
          have f11 := hide hI.1
          replace hI := hI.2
          have f12 := hide hI.1
          replace hI := hI.2
          have f13 := hide hI.1
          replace hI := hI.2
          have f14 := hide hI.1
          replace hI := hI.2
          have f15 := hide hI.1
          replace hI := hI.2
          have f16 := hide hI.1
          replace hI := hI.2
          have f17 := hide hI
          clear hI
          have hGb := hG.1
          have hs1 := Nat.le_trans hsz hGb.size
          have bZW := HZ.out.below hGb (by omega)
          have z2c := bZW.cell 2 rfl
          have z3c := bZW.cell 3 rfl
          obtain rfl := f12.out (hD.on 12 (by kernel_rfl))
          try simp only [puts, Act.put, List.setIfInBounds_toArray, List.set_cons_zero, List.set_cons_succ]
          try go_simp
          generalize hW' : World.alloc W _ = W'
          have hb : Below W.heap.size W W' := by rw [← hW']; exact bal W _
          exact hK.out _ _ _ (by simp only [puts, Act.put, List.setIfInBounds_toArray, List.set_cons_zero, List.set_cons_succ] <;> rfl) ⟨⟨hG.1.trans (hb.mono hs1), fun h => (hG.2.1 h).later hb, fun h => (hG.2.2 h).later' hb⟩, (fun h => f0.out h), (fun h => f1.out h), (fun h => f2.out h), (fun h => f3.out h), (fun h => f4.out h), (fun h => f5.out h), (fun h => f6.out h), (fun h => f7.out h), (fun h => f8.out h), (fun h => f9.out h), (fun h => f10.out h), (fun h => f11.out h), (fun h => f12.out h), (fun _ => fun _ => ⟨W.heap.size, rfl, by rw [← hW'] ; exact Blk.newA W _ rfl⟩), (fun h => (fun h => ⟨⟨h.1.1, rfl⟩, fun h17 => (h.2 h17).later' hb⟩) (f14.out h)), (fun h => f15.out h), (fun h => f16.out h), (fun h => (fun h => ⟨h.1, let ⟨v, b⟩ := h.2; ⟨v, b.later hb⟩⟩) (f17.out h))⟩
        · intro L vs W hlen hL hD hI K hK
          obtain ⟨x0, x1, x2, x3, x4, x5, x6, x7, x8, x9, x10, x11, x12, x13, x14, x15, x16, x17, rfl⟩ := len18 hlen
          have hG := hI.1
          replace hI := hI.2
          have f0 := hide hI.1
          replace hI := hI.2
          have f1 := hide hI.1
          replace hI := hI.2
          have f2 := hide hI.1
          replace hI := hI.2
          have f3 := hide hI.1
          replace hI := hI.2
          have f4 := hide hI.1
          replace hI := hI.2
          have f5 := hide hI.1
          replace hI := hI.2
          have f6 := hide hI.1
          replace hI := hI.2
          have f7 := hide hI.1
          replace hI := hI.2
          have f8 := hide hI.1
          replace hI := hI.2
          have f9 := hide hI.1
          replace hI := hI.2
          have f10 := hide hI.1
          replace hI := hI.2
          have f11 := hide hI.1
          replace hI := hI.2
          have f12 := hide hI.1
          replace hI := hI.2
          have f13 := hide hI.1
          replace hI := hI.2
          have f14 := hide hI.1
          replace hI := hI.2
          have f15 := hide hI.1
          replace hI := hI.2
          have f16 := hide hI.1
          replace hI := hI.2
          have f17 := hide hI
          clear hI
          have hGb := hG.1
          have hs1 := Nat.le_trans hsz hGb.size
          have bZW := HZ.out.below hGb (by omega)
          have z2c := bZW.cell 2 rfl
          have z3c := bZW.cell 3 rfl
          obtain rfl := f4.out (hD.on 4 (by kernel_rfl))
          have g13 := f13.out (hD.on 13 (by kernel_rfl))
          try simp only [puts, Act.put, List.setIfInBounds_toArray, List.set_cons_zero, List.set_cons_succ]
          have h17 : L 17 = false := Bool.eq_false_iff.2 (fun h => absurd ((f17.out h).1.2.symm.trans hL) (by decide))
          obtain ⟨b8, rfl, hB8⟩ := g13 hL
          have hO := hG.2.2 hL
          refine step_app_t infoWt rfl (by decide) Try.underlying52 rfl _ _ rfl (w.heap.size + 1) _ (S.wts.map wtCells) rfl hO (some ⟨b8, 0, none⟩) 1 1 [wtCells (p, 1 + q)] rfl rfl (by intro x hx ; rw [List.mem_singleton] at hx ; subst hx ; rfl) (by simp [wtCells, Value.oneCell']) (fun b hb j u hj => by cases hb ; have := hB8.cell j (by simpa using hj) ; cases j <;> simpa [Addr.add] using this) (fun e => by cases e) (by simp only [List.length_singleton] ; omega) (by simp only [List.length_singleton] ; omega) hs1 ?_
          intro v' W' hO2 hg
          have hb := below_own hO hs1 hg
          exact hK.out _ _ _ (by simp only [puts, Act.put, List.setIfInBounds_toArray, List.set_cons_zero, List.set_cons_succ] <;> rfl) ⟨⟨hG.1.trans hb, fun h => (hG.2.1 h).grown hO hs1 hg, fun h => absurd h (by simp)⟩, (fun h => f0.out h), (fun h => f1.out h), (fun h => f2.out h), (fun h => f3.out h), (fun h => f4.out h), (fun h => f5.out h), (fun h => f6.out h), (fun h => f7.out h), (fun h => f8.out h), (fun h => f9.out h), (fun h => f10.out h), (fun h => f11.out h), (fun h => f12.out h), (fun h => (fun _ h => absurd h (by simp)) (f13.out h)), (fun _ => ⟨⟨hD.on 4 (by kernel_rfl), hD.on 13 (by kernel_rfl)⟩, fun _ => hO2⟩), (fun h => f15.out h), (fun h => f16.out h), (fun h => (fun h => absurd (h.1.2.symm.trans hL) (by decide)) (f17.out h))⟩
        · intro L vs W hlen hL hD hI K hK
          obtain ⟨x0, x1, x2, x3, x4, x5, x6, x7, x8, x9, x10, x11, x12, x13, x14, x15, x16, x17, rfl⟩ := len18 hlen
          have hG := hI.1
          replace hI := hI.2
          have f0 := hide hI.1
          replace hI := hI.2
          have f1 := hide hI.1
          replace hI := hI.2
          have f2 := hide hI.1
          replace hI := hI.2
          have f3 := hide hI.1
          replace hI := hI.2
          have f4 := hide hI.1
          replace hI := hI.2
          have f5 := hide hI.1
          replace hI := hI.2
          have f6 := hide hI.1
          replace hI := hI.2
          have f7 := hide hI.1
          replace hI := hI.2
          have f8 := hide hI.1
          replace hI := hI.2
          have f9 := hide hI.1
          replace hI := hI.2
          have f10 := hide hI.1
          replace hI := hI.2
          have f11 := hide hI.1
          replace hI := hI.2
          have f12 := hide hI.1
          replace hI := hI.2
          have f13 := hide hI.1
          replace hI := hI.2
          have f14 := hide hI.1
          replace hI := hI.2
          have f15 := hide hI.1
          replace hI := hI.2
          have f16 := hide hI.1
          replace hI := hI.2
          have f17 := hide hI
          clear hI
          have hGb := hG.1
          have hs1 := Nat.le_trans hsz hGb.size
          have bZW := HZ.out.below hGb (by omega)
          have z2c := bZW.cell 2 rfl
          have z3c := bZW.cell 3 rfl
          obtain rfl := f0.out (hD.on 0 (by kernel_rfl))
          try simp only [puts, Act.put, List.setIfInBounds_toArray, List.set_cons_zero, List.set_cons_succ]
          try go_simp
          exact hK.out _ _ _ (by simp only [puts, Act.put, List.setIfInBounds_toArray, List.set_cons_zero, List.set_cons_succ] <;> rfl) ⟨hG, (fun h => f0.out h), (fun h => f1.out h), (fun h => f2.out h), (fun h => f3.out h), (fun h => f4.out h), (fun h => f5.out h), (fun h => f6.out h), (fun h => f7.out h), (fun h => f8.out h), (fun h => f9.out h), (fun h => f10.out h), (fun h => f11.out h), (fun h => f12.out h), (fun h => f13.out h), (fun h => f14.out h), (fun _ => rfl), (fun h => f16.out h), (fun h => f17.out h)⟩
        · intro L vs W hlen hL hD hI K hK
          obtain ⟨x0, x1, x2, x3, x4, x5, x6, x7, x8, x9, x10, x11, x12, x13, x14, x15, x16, x17, rfl⟩ := len18 hlen
          have hG := hI.1
          replace hI := hI.2
          have f0 := hide hI.1
          replace hI := hI.2
          have f1 := hide hI.1
          replace hI := hI.2
          have f2 := hide hI.1
          replace hI := hI.2
          have f3 := hide hI.1
          replace hI := hI.2
          have f4 := hide hI.1
          replace hI := hI.2
          have f5 := hide hI.1
          replace hI := hI.2
          have f6 := hide hI.1
          replace hI := hI.2
          have f7 := hide hI.1
          replace hI := hI.2
          have f8 := hide hI.1
          replace hI := hI.2
          have f9 := hide hI.1
          replace hI := hI.2
          have f10 := hide hI.1
          replace hI := hI.2
          have f11 := hide hI.1
          replace hI := hI.2
          have f12 := hide hI.1
          replace hI := hI.2
          have f13 := hide hI.1
          replace hI := hI.2
          have f14 := hide hI.1
          replace hI := hI.2
          have f15 := hide hI.1
          replace hI := hI.2
          have f16 := hide hI.1
          replace hI := hI.2
          have f17 := hide hI
          clear hI
          have hGb := hG.1
          have hs1 := Nat.le_trans hsz hGb.size
          have bZW := HZ.out.below hGb (by omega)
          have z2c := bZW.cell 2 rfl
          have z3c := bZW.cell 3 rfl
          obtain rfl := f15.out (hD.on 15 (by kernel_rfl))
          try simp only [puts, Act.put, List.setIfInBounds_toArray, List.set_cons_zero, List.set_cons_succ]
          try go_simp
          exact hK.out _ _ _ (by simp only [puts, Act.put, List.setIfInBounds_toArray, List.set_cons_zero, List.set_cons_succ] <;> rfl) ⟨hG, (fun h => f0.out h), (fun h => f1.out h), (fun h => f2.out h), (fun h => f3.out h), (fun h => f4.out h), (fun h => f5.out h), (fun h => f6.out h), (fun h => f7.out h), (fun h => f8.out h), (fun h => f9.out h), (fun h => f10.out h), (fun h => f11.out h), (fun h => f12.out h), (fun h => f13.out h), (fun h => f14.out h), (fun h => f15.out h), (fun _ => rfl), (fun h => f17.out h)⟩
        · intro L vs W hlen hL hD hI K hK
          obtain ⟨x0, x1, x2, x3, x4, x5, x6, x7, x8, x9, x10, x11, x12, x13, x14, x15, x16, x17, rfl⟩ := len18 hlen
          have hG := hI.1
          replace hI := hI.2
          have f0 := hide hI.1
          replace hI := hI.2
          have f1 := hide hI.1
          replace hI := hI.2
          have f2 := hide hI.1
          replace hI := hI.2
          have f3 := hide hI.1
          replace hI := hI.2
          have f4 := hide hI.1
          replace hI := hI.2
          have f5 := hide hI.1
          replace hI := hI.2
          have f6 := hide hI.1
          replace hI := hI.2
          have f7 := hide hI.1
          replace hI := hI.2
          have f8 := hide hI.1
          replace hI := hI.2
          have f9 := hide hI.1
          replace hI := hI.2
          have f10 := hide hI.1
          replace hI := hI.2
          have f11 := hide hI.1
          replace hI := hI.2
          have f12 := hide hI.1
          replace hI := hI.2
          have f13 := hide hI.1
          replace hI := hI.2
          have f14 := hide hI.1
          replace hI := hI.2
          have f15 := hide hI.1
          replace hI := hI.2
          have f16 := hide hI.1
          replace hI := hI.2
          have f17 := hide hI
          clear hI
          have hGb := hG.1
          have hs1 := Nat.le_trans hsz hGb.size
          have bZW := HZ.out.below hGb (by omega)
          have z2c := bZW.cell 2 rfl
          have z3c := bZW.cell 3 rfl
          have g14 := f14.out (hD.on 14 (by kernel_rfl))
          obtain rfl := f16.out (hD.on 16 (by kernel_rfl))
          try simp only [puts, Act.put, List.setIfInBounds_toArray, List.set_cons_zero, List.set_cons_succ]
          have hO := g14.2 hL
          have hT := hG.2.1 hL
          have y3 := hT.cell hkl
          have fz := hT.frozen (k * 4 + 3)
          obtain ⟨a9, c9, e9⟩ := own_form hO (n := S.wts.length + 1) (by simp)
          subst e9
          go_simp
          have hb := Below.refl W.heap.size W
          exact hK.out _ undef _ (by simp only [puts, Act.put, List.setIfInBounds_toArray, List.set_cons_zero, List.set_cons_succ] <;> rfl) ⟨⟨hG.1.setCell (p := ⟨g, k * 4 + 3, none⟩) (by show w.heap.size + 1 ≤ g ; omega) _, fun h => absurd h (by simp), fun h => absurd (h.symm.trans (hD.on 14 (by kernel_rfl))) (by decide)⟩, (fun h => f0.out h), (fun h => f1.out h), (fun h => f2.out h), (fun h => f3.out h), (fun h => f4.out h), (fun h => f5.out h), (fun h => f6.out h), (fun h => f7.out h), (fun h => f8.out h), (fun h => f9.out h), (fun h => f10.out h), (fun h => f11.out h), (fun h => f12.out h), (fun h => (fun _ h => absurd (h.symm.trans (hD.on 14 (by kernel_rfl))) (by decide)) (f13.out h)), (fun h => (fun h => ⟨h.1, fun h17 => absurd h17 (by simp)⟩) (f14.out h)), (fun h => f15.out h), (fun h => f16.out h), (fun _ => ⟨⟨g14.1.1, hD.on 14 (by kernel_rfl)⟩, _, hT.put hkl (by simpa using hO) ⟨rfl, rfl, rfl⟩⟩)⟩
      intro L vs W hlen hall hI
      obtain ⟨x0, x1, x2, x3, x4, x5, x6, x7, x8, x9, x10, x11, x12, x13, x14, x15, x16, x17, rfl⟩ := len18 hlen
      have hG := hI.1
      replace hI := hI.2
      have f0 := hide hI.1
      replace hI := hI.2
      have f1 := hide hI.1
      replace hI := hI.2
      have f2 := hide hI.1
      replace hI := hI.2
      have f3 := hide hI.1
      replace hI := hI.2
      have f4 := hide hI.1
      replace hI := hI.2
      have f5 := hide hI.1
      replace hI := hI.2
      have f6 := hide hI.1
      replace hI := hI.2
      have f7 := hide hI.1
      replace hI := hI.2
      have f8 := hide hI.1
      replace hI := hI.2
      have f9 := hide hI.1
      replace hI := hI.2
      have f10 := hide hI.1
      replace hI := hI.2
      have f11 := hide hI.1
      replace hI := hI.2
      have f12 := hide hI.1
      replace hI := hI.2
      have f13 := hide hI.1
      replace hI := hI.2
      have f14 := hide hI.1
      replace hI := hI.2
      have f15 := hide hI.1
      replace hI := hI.2
      have f16 := hide hI.1
      replace hI := hI.2
      have f17 := hide hI
      clear hI
      obtain rfl := f0.out (hall 0 (by decide))
      obtain rfl := f1.out (hall 1 (by decide))
      obtain rfl := f2.out (hall 2 (by decide))
      obtain rfl := f3.out (hall 3 (by decide))
      obtain rfl := f4.out (hall 4 (by decide))
      obtain rfl := f5.out (hall 5 (by decide))
      obtain rfl := f6.out (hall 6 (by decide))
      obtain rfl := f7.out (hall 7 (by decide))
      obtain rfl := f8.out (hall 8 (by decide))
      obtain rfl := f9.out (hall 9 (by decide))
      obtain rfl := f10.out (hall 10 (by decide))
      obtain rfl := f11.out (hall 11 (by decide))
      obtain rfl := f12.out (hall 12 (by decide))
      have g13 := f13.out (hall 13 (by decide))
      have g14 := f14.out (hall 14 (by decide))
      obtain rfl := f15.out (hall 15 (by decide))
      obtain rfl := f16.out (hall 16 (by decide))
      have g17 := f17.out (hall 17 (by decide))
      have hal := hide hall
      clear hall f0 f1 f2 f3 f4 f5 f6 f7 f8 f9 f10 f11 f12 f13 f14 f15 f16 f17
      try simp only [puts, Act.put, List.setIfInBounds_toArray, List.set_cons_zero, List.set_cons_succ]
      obtain ⟨-, wv9, hfin⟩ := g17
      clear g14 g13 hG
      go_wp2_with fail
      go_ret
      exact ⟨_, _, rfl, hfin.steps hkl, hfin.hb, by rw [List.length_set]; exact Nat.le_refl _, fun h => by rw [List.length_set]; exact h, OkL.set HOK.out k (by have := HST.out.1; show (S.wts ++ [(p, 1 + q)]).length ≤ M + 1; simp; omega) (fun x hx => by
        have hx' : x ∈ S.wts ++ [(p, 1 + q)] := hx
        rcases List.mem_append.1 hx' with h | h
        · exact HST.out.2 x h
        · rw [List.mem_singleton] at h; subst h; exact ⟨by show -1 ≤ 1 + q; omega, by show 1 + q ≤ 1003; omega⟩)⟩
    | 6, _ =>
      go_wp2_with fail
      refine (HP.out z2 (by simp) l.length W6 (by omega) (by omega)).mono ?_
      rintro e w' ⟨rfl, hw⟩; obtain rfl := hw.symm
      have hp := HPK.out l.length (by omega)
      obtain ⟨p, hpp⟩ : ∃ p : Nat, pickF z2 l.length = (p : Int) := ⟨(pickF z2 l.length).toNat, by omega⟩
      rw [hpp] at hp ⊢
      have hpl : p < l.length := by omega
      have e1 : IntKind.i64.wrap ((p : Int) + 1) = p + 1 := IntWalk.i64_in _ ⟨by omega, by omega⟩
      have hc3 : l.length ≤ c3 ∧ c3 ≤ 9223372036854775807 := by
        obtain ⟨a', c', e, h1, h2, -⟩ := HBS.out.steps hkl
        injection e with e1 e2 e3
        rw [List.length_set] at h1
        exact ⟨by omega, by omega⟩
      go_wp2_with fail
      go_ret
      exact ⟨_, _, rfl, (HBS.out.steps hkl).take (by rw [List.length_set]; omega), HBS.out.hb, by rw [List.length_take, List.length_set]; omega, fun h => by rw [List.length_take, List.length_set]; omega, fun s hs => OkL.set HOK.out k (by have := HST.out.1; omega) HST.out.2 s (List.mem_of_mem_take hs)⟩
    | 7, _ =>
      have hf1 := HBS.out.drew.put hkl 1 (by omega) (.int .i64 S.yes) (st' := ⟨S.var, S.yes, S.yes, S.wts⟩) rfl rfl
      have hfin := hf1.put hkl 2 (by omega) (.int .i64 S.no) (st' := ⟨S.var, S.yes, S.no, S.wts⟩) rfl rfl
      go_wp2_with fail
      go_region
      go_wp2_with fail
      go_ret
      exact ⟨_, _, rfl, hfin.steps hkl, hfin.hb, by rw [List.length_set]; exact Nat.le_refl _, fun h => by rw [List.length_set]; exact h, OkL.set HOK.out k (by have := HST.out.1; show S.wts.length ≤ M + 1; omega) HST.out.2⟩
    | 8, _ =>
      have hfin := HBS.out
      go_wp2_with fail
      go_ret
      exact ⟨_, _, rfl, hfin.steps hkl, hfin.hb, by rw [List.length_set]; exact Nat.le_refl _, fun h => by rw [List.length_set]; exact h, OkL.set HOK.out k (by have := HST.out.1; show S.wts.length ≤ M + 1; omega) HST.out.2⟩
end Go.Proofs.Ytppfdjjhloaopaa
/- The walk of few of the laws. Conditions: how the argument lies in memory. -/
namespace Go.Proofs.Ytppfdjjhloaopaa
open Go.RowKit

def cut9 (s : StepD) : StepD := ⟨s.var, s.no, s.yes, s.wts.take 9⟩
def fewS (l : List StepD) : List StepD := (l.take 40).map cut9
/-- a slice of a call's own of the first k steps, cut -/
def FewAt (w W : World) (B : Nat) (v : Value) (l : List StepD) (k : Nat) : Prop :=
  ∃ L, OwnR W B 54 4 v L ∧ L.length = k ∧ ∀ i, i < k → ∃ wv, L.getD i [] = stepCells (cut9 (l.getD i st0)) wv ∧ WtsIn w.cell? wv (cut9 (l.getD i st0)).wts
theorem wts_cut {c : Rd} {a : Option Addr} {n m j : Nat} {l : List (Int × Int)} (h : WtsIn c (.slice a n m) l) (hj : j ≤ l.length) : WtsIn c (.slice a j m) (l.take j) := by
  obtain ⟨a', n', e, h2, h3, h4⟩ := h
  injection e with e1 e2 e3
  subst e1 e3
  have ht : (l.take j).length = j := by rw [List.length_take]; omega
  refine ⟨a, m, by rw [ht], by omega, h3, fun k hk => ?_⟩
  rw [ht] at hk
  have e5 : (l.take j).getD k (0, 0) = l.getD k (0, 0) := by simp [List.getD_eq_getElem?_getD, hk]
  rw [e5]
  exact h4 k (by omega)
theorem FewAt.steps {w W : World} {B : Nat} {v : Value} {l : List StepD} {k : Nat} (h : FewAt w W B v l k) (hk : k ≤ l.length) (hb : Below w.heap.size w W) : StepsIn W.cell? v ((l.take k).map cut9) := by
  obtain ⟨L, h1, h2, h3⟩ := h
  have hl : ((l.take k).map cut9).length = k := by rw [List.length_map, List.length_take]; omega
  have hget : ∀ i, i < k → ((l.take k).map cut9).getD i st0 = cut9 (l.getD i st0) := fun i hi => by
    have : i < l.length := by omega
    simp [List.getD_eq_getElem?_getD, hi, this]
  rcases h1.form with ⟨rfl, e2⟩ | ⟨g, c, cur, rfl, e1, e3, e4, e5⟩
  · have hk0 : k = 0 := by rw [← h2, e2]; rfl
    subst hk0
    simpa using StepsIn.nil W.cell?
  · refine ⟨some ⟨g, 0, none⟩, c, by rw [hl, ← h2], by rw [hl, ← h2]; exact e4, by unfold maxLen at e5; omega, fun i hi => ?_⟩
    rw [hl] at hi
    rw [hget i hi]
    obtain ⟨wv', e, hW⟩ := h3 i hi
    have hc : ∀ (j : Nat) (u : Value), j < 4 → (stepCells (cut9 (l.getD i st0)) wv')[j]? = some u → W.cell? ⟨g, i * 4 + j, none⟩ = some u := fun j u hj hu => h1.cell i j (by omega) hj (by rw [e]; exact hu)
    refine ⟨g, 0, wv', rfl, ?_, ?_, ?_, ?_, hW.keeps (keeps_of_below hb)⟩ <;> rw [Nat.zero_add]
    · simpa using hc 0 _ (by omega) rfl
    · exact hc 1 _ (by omega) rfl
    · exact hc 2 _ (by omega) rfl
    · exact hc 3 _ (by omega) rfl
set_option maxRecDepth 100000 in
set_option maxHeartbeats 4000000 in
theorem fews_any (l : List StepD) (lv : Value) (w : World) (hs : StepsIn w.cell? lv l) :
    Calls Try.prog 14 #[lv] w (fun e w' => ∃ v, e = .returned v ∧ StepsIn w'.cell? v (fewS l) ∧ Below w.heap.size w w') := by
  obtain ⟨sa, sc, rfl, hsn, hsm, hsc⟩ := id hs
  have hm1 : (l.length : Int) ≤ 9223372036854775807 := by omega
  have HSC := hide hsc
  clear hsc hs
  go_enter Try.func14, Try.ntmps14
  go_wp2_with fail
  go_loopw [3, 4] (fun v i wr => ∃ k : Nat, k ≤ min l.length 40 ∧ i = .int .i64 k ∧ FewAt w wr w.heap.size v l k ∧ Below w.heap.size w wr) (fun _ i _ => min l.length 40 - (intOf i).toNat)
  case atStart => exact ⟨0, by omega, rfl, ⟨[], OwnR.nil _ _ _ _, rfl, fun i hi => by omega⟩, Below.refl _ _⟩
  case round =>
    obtain ⟨k, hk, rfl, hF, hbr⟩ := hrel
    by_cases hlt : k < l.length
    · have hkl : decide (k < l.length) = true := by simpa using hlt
      by_cases h40 : k < 40
      · have hk40 : decide (k < 40) = true := by simpa using h40
        have hki : decide ((k : Int) < 40) = true := by simp; omega
        obtain ⟨b, o, wv, rfl, c0, c1, c2, c3, cw⟩ := HSC.out k hlt
        obtain ⟨s, hs⟩ : ∃ s, l.getD k st0 = s := ⟨_, rfl⟩
        rw [hs] at c0 c1 c2 cw
        obtain ⟨wa, wn, rfl, hwn, hwm, -⟩ := id cw
        replace c0 := keep hbr c0
        replace c1 := keep hbr c1
        replace c2 := keep hbr c2
        replace c3 := keep hbr c3
        obtain ⟨cm, hcm'⟩ : ∃ cm, cm = min s.wts.length 9 := ⟨_, rfl⟩
        have hmin : min (s.wts.length : Int) 9 = (cm : Int) := by omega
        have hcl1 : cm ≤ s.wts.length := by omega
        have hcl2 : cm ≤ wn := by omega
        have hwm2 : (s.wts.length : Int) ≤ 9223372036854775807 := by omega
        have hcw := wts_cut cw hcl1
        have hct : s.wts.take 9 = s.wts.take cm := by rw [hcm']; rcases Nat.le_total s.wts.length 9 with h | h
                                                      · rw [Nat.min_eq_left h, List.take_length, List.take_of_length_le h]
                                                      · rw [Nat.min_eq_right h]
        rw [← hct] at hcw
        have HS := hide hs
        have HCW := hide hcw
        clear hs hcw hct hcm' cw
        go_upto_region 7 with fail
        try simp only [hmin, Int.toNat_natCast]
        generalize hV1 : World.alloc wr _ = V1
        have zV1 : V1.heap.size = wr.heap.size + 1 := by rw [← hV1]; simp
        have bV1 : Below wr.heap.size wr V1 := by rw [← hV1]; exact bal wr _
        have bB : Blk V1 (wr.heap.size) [.int .i64 s.var, .int .i64 s.no, .int .i64 s.yes, .slice wa cm wn] 54 := by rw [← hV1]; exact Blk.newA wr _ (by first | rfl | simp)
        have Vb := bV1
        have Vz := zV1
        clear hV1 zV1 bV1
        obtain ⟨W6, rfl⟩ : ∃ W6, W6 = V1 := ⟨_, rfl⟩
        have hbB := Vb
        have zz : W6.heap.size = wr.heap.size + 1 := Vz
        have y0 := bB.cell 0 rfl
        have y1 := bB.cell 1 rfl
        have y2 := bB.cell 2 rfl
        have y3 := bB.cell 3 rfl
        obtain ⟨L, hOR, hLk, hLs⟩ := hF
        have hO6 := hOR.later' hbB
        obtain ⟨va, vc, rfl⟩ := own_form hO6 hLk
        have hwW : w.heap.size ≤ W6.heap.size := Nat.le_trans hbr.size hbB.size
        have tok : True := trivial
        go_wp2_with (at_builtin; have _t := tok; generalize hX : World.alloc W6 _ = X; have bX : Below W6.heap.size W6 X := (by rw [← hX]; exact bal W6 _); have bN : Blk X W6.heap.size (stepCells (cut9 s) (.slice wa cm wn)) 54 := (by rw [← hX]; exact Blk.newA W6 _ rfl); rw [zz] at bN; clear hX; clear tok; refine Hid.out ?_)
        refine hide ?_
        refine app_recs infoStep rfl (by decide) Try.underlying30 rfl _ _ rfl w.heap.size _ L rfl (hO6.later' bX) (some ⟨wr.heap.size + 1, 0, none⟩) 1 1 [stepCells (cut9 s) (.slice wa cm wn)] rfl rfl (by intro x hx; rw [List.mem_singleton] at hx; subst hx; rfl) (by simp [stepCells, Value.oneCell']) (fun b hb j u hj => by cases hb; have := bN.cell j (by simpa using hj); cases j <;> simpa [Addr.add] using this) (fun e => by cases e) (by simp only [List.length_singleton]; omega) (by simp only [List.length_singleton]; omega) (by have := bX.size; omega) ?_
        intro v7 W7 hO7 hg7
        have hb7 : Below w.heap.size w W7 := (((hbr.trans (hbB.mono hbr.size)).trans (bX.mono hwW)).trans (below_own (hO6.later' bX) (by have := bX.size; omega) hg7))
        obtain ⟨a7, c7, rfl⟩ := own_form hO7 (n := k + 1) (by simp [hLk])
        go_wp2_with fail
        go_roundw
        case rel =>
          refine ⟨k + 1, by omega, by go_num, ⟨_, hO7, by simp [hLk], fun i hi => ?_⟩, hb7⟩
          by_cases hik : i = k
          · subst hik
            refine ⟨.slice wa cm wn, ?_, by rw [HS.out]; exact HCW.out⟩
            rw [HS.out, ← hLk]; simp [List.getD_eq_getElem?_getD]
          · obtain ⟨wv, e, hW⟩ := hLs i (by omega)
            refine ⟨wv, ?_, hW⟩
            rw [← e]
            simp only [List.getD_eq_getElem?_getD]
            rw [List.getElem?_append_left (by omega)]
        case measure => simp [intOf]; omega
      · obtain rfl : k = 40 := by omega
        have hk40 : decide ((40 : Nat) < 40) = false := by decide
        have hst := hF.steps (by omega) hbr
        obtain ⟨L, hOR, hLk, hLs⟩ := hF
        obtain ⟨va, vc, rfl⟩ := own_form hOR hLk
        go_wp2_with fail
        go_ret
        exact ⟨_, rfl, hst, hbr⟩
    · obtain rfl : k = l.length := by omega
      have hst := hF.steps (by omega) hbr
      have hfl : fewS l = (l.take l.length).map cut9 := by unfold fewS; rw [List.take_length, List.take_of_length_le (by omega)]
      obtain ⟨L, hOR, hLk, hLs⟩ := hF
      obtain ⟨va, vc, rfl⟩ := own_form hOR hLk
      go_wp2_with fail
      go_ret
      exact ⟨_, rfl, by rw [hfl]; exact hst, hbr⟩
end Go.Proofs.Ytppfdjjhloaopaa
/- Plain words: the rows that are used, sorted: ascending, and just those. No condition. -/
namespace Go.Proofs.Ytppfdjjhloaopaa
open Go.RowKit Go.Maps

theorem ints_setOf : ∀ (ks : List Int) (es : List (Lit × DataW Unit)), (∀ p ∈ es, ∃ x, p.1 = Lit.int .i64 x) → ∃ es' : List (Lit × DataW Unit), (ks.map (Lit.int .i64)).foldl (fun (m : DataW Unit) (x : Lit) => m.put x (.lit (.bool true))) (DataW.map es) = DataW.map es' ∧ ∀ p ∈ es', ∃ x, p.1 = Lit.int .i64 x
  | [], es, h => ⟨es, rfl, h⟩
  | k :: ks, es, h => ints_setOf ks _ (fun p hp => by
    rcases List.mem_cons.1 ((WideShapes.insert_perm _ _).mem_iff.1 hp) with rfl | hp'
    · exact ⟨k, rfl⟩
    · exact h p (List.mem_filter.1 hp').1)
theorem keyed_spec (ks : List Int) : (keyed ks).Pairwise (· < ·) ∧ ∀ x, x ∈ keyed ks ↔ x ∈ ks := by
  have hkl : ∀ x ∈ ks.map (Lit.int .i64), WideAt.IsKeyLit x := fun x hx => by obtain ⟨y, -, rfl⟩ := List.mem_map.1 hx; simp [WideAt.IsKeyLit]
  obtain ⟨es, he, hp⟩ := tidy_setOf (H := Unit) (.lit (.bool true)) _ hkl
  obtain ⟨es', he', hi⟩ := ints_setOf ks [] (by simp)
  have e1 : es' = es := by
    have : DataW.map es' = DataW.map es := he'.symm.trans he
    cases this; rfl
  subst e1
  have hk : keysD ks = .map es' := he
  have hnd : (intKeys (keysD ks)).Nodup := by
    rw [hk]
    refine List.pairwise_map.2 (hp.imp_of_mem fun {p q} hp' hq' hne e => hne ?_)
    obtain ⟨a, ha⟩ := hi p hp'
    obtain ⟨b, hb⟩ := hi q hq'
    rw [ha, hb] at e ⊢
    exact congrArg _ e
  have hm : ∀ x, x ∈ intKeys (keysD ks) ↔ x ∈ ks := fun x => by
    have h1 := has_setOf (H := Unit) (.lit (.bool true)) (.int .i64 x) _ hkl
    have h2 : has (keysD ks) (.int .i64 x) = true ↔ x ∈ intKeys (keysD ks) := by
      rw [hk, has_eq, List.any_eq_true]
      show _ ↔ x ∈ es'.map fun p => Go.intOf p.1
      rw [List.mem_map]
      constructor
      · rintro ⟨p, hp', hs⟩
        obtain ⟨a, ha⟩ := hi p hp'
        rw [ha] at hs
        exact ⟨p, hp', by rw [ha]; simpa [Lit.sameKey, Go.intOf] using hs⟩
      · rintro ⟨p, hp', rfl⟩
        obtain ⟨a, ha⟩ := hi p hp'
        exact ⟨p, hp', by rw [ha]; simp [Lit.sameKey, Go.intOf]⟩
    rw [← h2]
    show has (setOf _ _) _ = true ↔ _
    rw [h1, List.any_eq_true]
    constructor
    · rintro ⟨p, hp', hs⟩
      obtain ⟨a, ha, rfl⟩ := List.mem_map.1 hp'
      have : a = x := by simpa [Lit.sameKey] using hs
      rwa [← this]
    · intro hx
      exact ⟨_, List.mem_map.2 ⟨x, hx, rfl⟩, by simp [Lit.sameKey]⟩
  have hperm := List.mergeSort_perm (intKeys (keysD ks)) leI
  refine ⟨?_, fun x => by rw [← hm x]; exact hperm.mem_iff⟩
  have tr : ∀ a b c : Int, leI a b = true → leI b c = true → leI a c = true := fun a b c h1 h2 => by simp only [leI, decide_eq_true_eq] at *; exact Int.le_trans h1 h2
  have tot : ∀ a b : Int, (leI a b || leI b a) = true := fun a b => by simp only [leI, Bool.or_eq_true, decide_eq_true_eq]; exact Int.le_total a b
  have h1 := List.pairwise_mergeSort tr tot (intKeys (keysD ks))
  have h2 : (keyed ks).Nodup := hperm.nodup_iff.2 hnd
  exact (h1.and h2).imp fun {a b} h => by
    have h3 : a ≤ b := by simpa [leI] using h.1
    have h4 : a ≠ b := h.2
    omega
end Go.Proofs.Ytppfdjjhloaopaa
/- Plain laws on what check finds: it is -1 just where the proof refutes; what that says of all choices. No condition. -/
namespace Go.Proofs.Ytppfdjjhloaopaa
open Go.RowKit

theorem check_iff {p : ProgD} {rows : List RowD} {l : List StepD} (hV : validB p = true) (hl : l.length ≤ 8192) (h0 : 0 < l.length) {F : Nat} (hF : l.length ≤ F) :
    decide (checkF p rows l = -1) = refutesF rows l F 0 (decF p.vars.toNat 0 0) := by
  have e : checkF p rows l = wrongF rows l l.length 0 (List.replicate p.vars.toNat (-1)) := by
    unfold checkF; rw [hV, if_pos (by simp [hl]), if_neg (by omega)]
  rw [e, wrongF_fuel rows l l.length F 0 _ h0 (by omega) (by omega), ← decF_open]
  have := wrong_refutes rows l F 0 (decF p.vars.toNat 0 0) h0
  rw [show ((0 : Nat) : Int) = 0 from rfl] at this
  rw [this]
theorem check_parts {p : ProgD} {rows : List RowD} {l : List StepD} (h : checkF p rows l = -1) : validB p = true ∧ l.length ≤ 8192 ∧ 0 < l.length := by
  unfold checkF at h
  cases hV : validB p
  · rw [hV] at h; simp at h
  · rw [hV] at h
    by_cases hl : l.length ≤ 8192
    · refine ⟨rfl, hl, ?_⟩
      simp only [hl, decide_true, Bool.and_self, if_true] at h
      by_cases h0 : l.length = 0
      · rw [if_pos h0] at h; omega
      · omega
    · simp [hl] at h
theorem fits_none (n s : Nat) : Fits (decF n 0 0) s := fun k hk => by
  rw [decF_len] at hk
  rw [decF_get hk, if_neg (by omega)]; exact Or.inl (by decide)
theorem check_sound {p : ProgD} {rows : List RowD} {l : List StepD} (h : checkF p rows l = -1) (hr : ∀ r ∈ rows, r.coef.length = p.vars.toNat) (s : Nat) : ¬ (∀ r ∈ rows, keptB r s = true) := fun hk => by
  obtain ⟨hV, hl, h0⟩ := check_parts h
  have h1 := check_iff (rows := rows) hV hl h0 (Nat.le_refl _)
  rw [h, refutes_sound rows l p.vars.toNat s (fun r hr' => ⟨hr r hr', hk r hr'⟩) _ 0 _ (decF_len _ _ _) (fits_none _ _)] at h1
  simp at h1
theorem ref_sound {p : ProgD} {l : List StepD} (h : refB p l = true) (s : Nat) : keptAll p.rows s = false := by
  have h1 : wrongP p l = -1 := by unfold refB at h; simpa using h
  rw [← Bool.not_eq_true]
  intro hk
  exact check_sound h1 (rows_len (check_parts h1).1) s (fun r hr => List.all_eq_true.1 hk r hr)
theorem bounds_sound {p : ProgD} {l : List StepD} {g : Int} (h : boundsB p l g = true) (s : Nat) (hk : keptAll p.rows s = true) : chosenF p.gain s ≤ g := by
  unfold boundsB at h
  simp only [Bool.and_eq_true, decide_eq_true_eq] at h
  refine Decidable.byContradiction fun hn => ?_
  refine check_sound h.2 (with_len (check_parts h.2).1 g) s (fun r hr => ?_)
  rcases List.mem_append.1 hr with h1 | h1
  · exact List.all_eq_true.1 hk r h1
  · simp at h1; rw [h1]
    simp only [keptB, decide_eq_true_eq]
    show chosenF (p.gain.map fun x => -x) _ ≤ -(g + 1)
    rw [chosenF_neg]; omega
theorem proof_some (p : ProgD) : 0 < (growF (rowsF p) p.vars.toNat 0 0 0).length := by have := (growF_len (rowsF p) p.vars.toNat 0 0 0).1; omega
/-- the plain proof of a program holds -/
theorem own_check {p : ProgD} (hV : validB p = true) : checkF p (rowsF p) (solveF p).proof = -1 := by
  rw [solve_proof hV]
  have h := check_iff (rows := rowsF p) hV (proof_short hV) (proof_some p) (F := (growF (rowsF p) p.vars.toNat 0 0 0).length + p.vars.toNat + 1) (by omega)
  rw [proof_refutes hV _ (by omega)] at h
  simpa using h
theorem own_refutes {p : ProgD} (hV : validB p = true) (hf : (bestF p).found = false) : wrongP p (solveF p).proof = -1 ∧ refB p (solveF p).proof = true := by
  have h := own_check hV
  rw [rowsF_none hf] at h
  exact ⟨h, by unfold refB wrongP; rw [h]; rfl⟩
theorem own_bounds {p : ProgD} (hV : validB p = true) (hf : (bestF p).found = true) : boundsB p (solveF p).proof (bestF p).gain = true := by
  have h := own_check hV
  rw [rowsF_found hf] at h
  have hb := best_bd hV
  unfold boundsB
  rw [h]; simp [isInB, hb]
theorem best_kept {p : ProgD} (hV : validB p = true) (hf : (bestF p).found = true) : keptAll p.rows (bestF p).set = true ∧ (bestF p).gain = chosenF p.gain (bestF p).set := by
  obtain ⟨v0, -⟩ := valid_parts hV
  obtain ⟨-, h, h2, -⟩ := (bestF_spec (p := p) (n := p.vars.toNat) (by omega)).2 hf
  exact ⟨h, h2⟩
theorem lesser_not {p : ProgD} (hV : validB p = true) (hf : (bestF p).found = true) (l : List StepD) {g : Int} (hg : g < (bestF p).gain) : boundsB p l g = false := by
  rw [← Bool.not_eq_true]
  intro h
  obtain ⟨h1, h2⟩ := best_kept hV hf
  have := bounds_sound h _ h1
  omega
theorem found_not {p : ProgD} (hV : validB p = true) (hf : (bestF p).found = true) (l : List StepD) : refB p l = false := by
  rw [← Bool.not_eq_true]
  intro h
  have := ref_sound h (bestF p).set
  rw [(best_kept hV hf).1] at this; cases this
end Go.Proofs.Ytppfdjjhloaopaa
/- Plain facts for ProofSound: the plain proof has few weights; what Refutes and Bounds say of all choices that keep the rows. No condition. -/
namespace Go.Proofs.Ytppfdjjhloaopaa
open Go.RowKit

theorem grow_ok (rows : List RowD) : ∀ f d s k, OkL 1 (growF rows f d s k)
  | 0, d, s, _ => fun x hx => by
    simp only [growF, List.mem_singleton] at hx
    subst hx
    exact ⟨by simp [leafF], fun p hp => by simp [leafF] at hp; subst hp; simp⟩
  | f + 1, d, s, k => fun x hx => by
    simp only [growF] at hx
    split at hx
    · rw [List.mem_singleton] at hx
      subst hx
      exact ⟨by simp [leafF], fun p hp => by simp [leafF] at hp; subst hp; simp⟩
    · rw [List.mem_cons, List.mem_append] at hx
      rcases hx with rfl | h | h
      · exact ⟨by simp [nodeF], fun p hp => by simp [nodeF] at hp⟩
      · exact grow_ok rows f _ _ _ x h
      · exact grow_ok rows f _ _ _ x h
theorem proof_ok {p : ProgD} (hV : validB p = true) : OkL 1 (solveF p).proof ∧ (solveF p).proof.length ≤ 8192 ∧ 0 < (solveF p).proof.length := by
  rw [solve_proof hV]
  exact ⟨grow_ok _ _ _ _ _, proof_short hV, proof_some p⟩
theorem allF_kept {p : ProgD} (hV : validB p = true) {i : Nat} (hi : i < (allF p).length) : ∃ s : Nat, (allF p).getD i 0 = (s : Int) ∧ keptAll p.rows s = true ∧ gainF p s = chosenF p.gain s := by
  have hall : allF p = (goodF p).map fun (s : Nat) => (s : Int) := by unfold allF; rw [if_pos hV]
  rw [hall, List.length_map] at hi
  obtain ⟨v0, v12, -⟩ := valid_parts hV
  have hm : (goodF p).getD i 0 ∈ goodF p := getD_mem _ _ hi
  have hm' := hm
  unfold goodF goodUp at hm'
  rw [List.mem_filter, List.mem_range] at hm'
  refine ⟨(goodF p).getD i 0, ?_, hm'.2, ?_⟩
  · rw [hall]; simp [List.getD_eq_getElem?_getD, hi]
  · unfold gainF
    rw [if_pos, Int.toNat_natCast]
    unfold choiceB
    have h1 : (((goodF p).getD i 0 : Nat) : Int) < ((2 ^ p.vars.toNat : Nat) : Int) := Int.ofNat_lt.2 hm'.1
    rw [Int.natCast_pow] at h1
    rw [hV, Bool.true_and]
    simp only [isInB, decide_eq_true_eq]
    exact ⟨Int.natCast_nonneg _, Int.le_sub_one_of_lt h1⟩
theorem ref_none {p : ProgD} (hV : validB p = true) {l : List StepD} (h : refB p l = true) : (allF p).length = 0 := by
  rcases Nat.eq_zero_or_pos (allF p).length with h0 | h0
  · exact h0
  · obtain ⟨s, -, hk, -⟩ := allF_kept hV h0
    rw [ref_sound h s] at hk; cases hk
theorem bnd_gain {p : ProgD} (hV : validB p = true) {l : List StepD} {g : Int} (h : boundsB p l g = true) {i : Nat} (hi : i < (allF p).length) : gainF p ((allF p).getD i 0) ≤ g := by
  obtain ⟨s, e, hk, hg⟩ := allF_kept hV hi
  rw [e, hg]
  exact bounds_sound h s hk
end Go.Proofs.Ytppfdjjhloaopaa
/- The walk of leaf of the reference of package proof. Conditions: how the arguments lie in memory; sizes; that the rows' numbers are bounded. -/
namespace Go.Proofs.Ytppfdjjhloaopaa
open Go.RowKit

theorem wrap_i64 {x : Int} (h1 : -9223372036854775808 ≤ x) (h2 : x ≤ 9223372036854775807) : IntKind.i64.wrap x = x := IntWalk.i64_in _ ⟨h1, h2⟩
theorem okWts_at' {m : Nat} {ws : List (Int × Int)} {i k : Nat} (h : okWts m ws k = true) (hi : i < k) : okWt m ws i = true := List.all_eq_true.1 h i (List.mem_range.2 hi)
set_option maxRecDepth 100000 in
set_option maxHeartbeats 4000000 in
theorem leafr_any (rows : List RowD) (dec : List Int) (hn : dec.length ≤ 12) (hr : RowsOk rows dec.length) (rv dv wv : Value) (st : StepD) (w : World) (hR : RowsAt w rv rows) (hw : WtsIn w.cell? wv st.wts) (hd : IntsAt w dv dec) :
    Calls Try.prog 64 #[rv, .agg #[.int .i64 st.var, .int .i64 st.no, .int .i64 st.yes, wv], dv] w (Ret (.bool (leafB rows st dec)) w) := by
  obtain ⟨stv, stno, styes, ws⟩ := st
  obtain ⟨wa, wc, rfl, hw1, hw2, hws⟩ := id hw
  obtain ⟨da, dc, rfl, hd1, hd2, hds⟩ := id hd
  obtain ⟨ra, rc, rfl, hr1, hr2, hrs⟩ := id hR
  have hwl : (ws.length : Int) ≤ 9223372036854775807 := by have h1 : ws.length ≤ wc := hw1; omega
  by_cases h : stno = 0 ∧ styes = 0 ∧ 1 ≤ ws.length ∧ ws.length ≤ 8
  · obtain ⟨rfl, rfl, h5', h6'⟩ := h
    have HF : Hid (leafB rows ⟨stv, 0, 0, ws⟩ dec = (okWts rows.length ws ws.length && decide (mostW rows ws ws.length < minK rows ws dec dec.length))) := hide (by show (decide ((0:Int) = 0) && decide ((0:Int) = 0) && decide (1 ≤ ws.length) && decide (ws.length ≤ 8) && _ && _) = _; rw [decide_eq_true h5', decide_eq_true h6']; simp)
    have hws' : ∀ k, k < ws.length → ∃ b o, wa = some ⟨b, o, none⟩ ∧ w.cell? ⟨b, o + k * 2, none⟩ = some (.int .i64 (ws.getD k wt0).1) ∧ w.cell? ⟨b, o + k * 2 + 1, none⟩ = some (.int .i64 (ws.getD k wt0).2) := hws
    have HWS := hide hws'
    have HRS := hide hrs
    have HDS := hide hds
    have HRO := hide hr
    have q1 : decide (ws.length < 1) = false := decide_eq_false (by omega)
    have q2 : decide (8 < ws.length) = false := decide_eq_false (by omega)
    clear hws hws' hw1 hw2 hw hr hrs hds hR hd
    go_enter Try.func64, Try.ntmps64
    go_wp2_with fail
    generalize hX1 : World.alloc w _ = X1
    have zX1 : X1.heap.size = w.heap.size + 1 := by rw [← hX1]; simp
    have bX1 : Below w.heap.size w X1 := by rw [← hX1]; exact bal w _
    have kS : Blk X1 (w.heap.size) (stepCells ⟨stv, 0, 0, ws⟩ (.slice wa ws.length wc)) 54 := by rw [← hX1]; exact Blk.newA w _ (by first | rfl | simp)
    have Xb := bX1
    have Xz := zX1
    clear hX1 zX1 bX1
    go_loopw [7] (fun i wr => ∃ j : Nat, j ≤ ws.length ∧ i = .int .i64 j ∧ Hid (okWts rows.length ws j = true) ∧ Below X1.heap.size X1 wr) (fun i _ => ws.length - (intOf i).toNat)
    case atStart => exact ⟨0, by omega, rfl, hide (by simp [okWts]), Below.refl _ _⟩
    case round =>
      obtain ⟨j, hj, rfl, HOK, hbr⟩ := hrel
      have hS := kS.later hbr
      have hbw := below2 Xb hbr
      have s3 := hS.cell 3 rfl
      by_cases hlt : j < ws.length
      · obtain ⟨b, o, rfl, hw0, hw1⟩ := HWS.out j hlt
        have cw0 := keep hbw hw0
        have cw1 := keep hbw hw1
        obtain ⟨r, t, hrt⟩ : ∃ r t : Int, ws.getD j wt0 = (r, t) := ⟨_, _, rfl⟩
        rw [hrt] at cw0 cw1
        have HWT : Hid (okWt rows.length ws j = (decide (0 ≤ r) && decide (r < rows.length) && decide (1 ≤ t) && decide (t ≤ 1000) && (decide (j = 0) || decide ((ws.getD (j - 1) wt0).1 < r)))) := hide (by unfold okWt; rw [hrt])
        clear hrt hw0 hw1
        by_cases f1 : r < 0
        · have HNO : Hid (okWt rows.length ws j = false) := hide (by rw [HWT.out]; simp; omega)
          go_wp2_with fail
          generalize hA1 : World.alloc wr _ = A1
          have bA : Blk A1 wr.heap.size [.int .i64 r, .int .i64 t] 56 := by rw [← hA1]; exact Blk.newA wr _ rfl
          have hb1 : Below wr.heap.size wr A1 := by rw [← hA1]; exact bal wr _
          have a0 := bwc (bA.cell 0 rfl)
          have a1 := bwc (bA.cell 1 rfl)
          have a3 := bwc (keep hb1 s3)
          skip
          clear hA1
          refine wp_region_bw (by kernel_rfl) (by kernel_rfl) ?_
          repeat (go_big_quiet_step (fail))
          refine wpQuiet_nil ?_
          rintro _ ⟨i, rfl⟩
          go_wp2_with fail
          go_ret
          exact ⟨ret_bool (by rw [HF.out, okWts_no HNO.out hlt]; rfl), below2 hbw (below2 hb1 i.h)⟩
        obtain ⟨R, hRr⟩ : ∃ R : Nat, r = R := ⟨r.toNat, by omega⟩
        obtain rfl := hRr
        have e1 : decide ((R : Int) < 0) = false := by simp
        by_cases f2 : rows.length ≤ R
        · have HNO : Hid (okWt rows.length ws j = false) := hide (by rw [HWT.out]; simp; omega)
          go_wp2_with fail
          generalize hA1 : World.alloc wr _ = A1
          have bA : Blk A1 wr.heap.size [.int .i64 R, .int .i64 t] 56 := by rw [← hA1]; exact Blk.newA wr _ rfl
          have hb1 : Below wr.heap.size wr A1 := by rw [← hA1]; exact bal wr _
          have a0 := bwc (bA.cell 0 rfl)
          have a1 := bwc (bA.cell 1 rfl)
          have a3 := bwc (keep hb1 s3)
          skip
          clear hA1
          refine wp_region_bw (by kernel_rfl) (by kernel_rfl) ?_
          repeat (go_big_quiet_step (fail))
          refine wpQuiet_nil ?_
          rintro _ ⟨i, rfl⟩
          go_wp2_with fail
          go_ret
          exact ⟨ret_bool (by rw [HF.out, okWts_no HNO.out hlt]; rfl), below2 hbw (below2 hb1 i.h)⟩
        have hR2 : R < rows.length := by omega
        have e2 : decide (rows.length ≤ R) = false := decide_eq_false f2
        by_cases f3 : t < 1
        · have HNO : Hid (okWt rows.length ws j = false) := hide (by rw [HWT.out]; simp; omega)
          go_wp2_with fail
          generalize hA1 : World.alloc wr _ = A1
          have bA : Blk A1 wr.heap.size [.int .i64 R, .int .i64 t] 56 := by rw [← hA1]; exact Blk.newA wr _ rfl
          have hb1 : Below wr.heap.size wr A1 := by rw [← hA1]; exact bal wr _
          have a0 := bwc (bA.cell 0 rfl)
          have a1 := bwc (bA.cell 1 rfl)
          have a3 := bwc (keep hb1 s3)
          skip
          clear hA1
          refine wp_region_bw (by kernel_rfl) (by kernel_rfl) ?_
          repeat (go_big_quiet_step (fail))
          refine wpQuiet_nil ?_
          rintro _ ⟨i, rfl⟩
          go_wp2_with fail
          go_ret
          exact ⟨ret_bool (by rw [HF.out, okWts_no HNO.out hlt]; rfl), below2 hbw (below2 hb1 i.h)⟩
        have e3 : decide (t < 1) = false := decide_eq_false f3
        by_cases f4 : 1000 < t
        · have HNO : Hid (okWt rows.length ws j = false) := hide (by rw [HWT.out]; simp; omega)
          go_wp2_with fail
          generalize hA1 : World.alloc wr _ = A1
          have bA : Blk A1 wr.heap.size [.int .i64 R, .int .i64 t] 56 := by rw [← hA1]; exact Blk.newA wr _ rfl
          have hb1 : Below wr.heap.size wr A1 := by rw [← hA1]; exact bal wr _
          have a0 := bwc (bA.cell 0 rfl)
          have a1 := bwc (bA.cell 1 rfl)
          have a3 := bwc (keep hb1 s3)
          skip
          clear hA1
          refine wp_region_bw (by kernel_rfl) (by kernel_rfl) ?_
          repeat (go_big_quiet_step (fail))
          refine wpQuiet_nil ?_
          rintro _ ⟨i, rfl⟩
          go_wp2_with fail
          go_ret
          exact ⟨ret_bool (by rw [HF.out, okWts_no HNO.out hlt]; rfl), below2 hbw (below2 hb1 i.h)⟩
        have e4 : decide (1000 < t) = false := decide_eq_false f4
        have g3 : 1 ≤ t := by omega
        have g4 : t ≤ 1000 := by omega
        clear f1 f2 f3 f4
        by_cases hj0 : j = 0
        · have e5 : decide (0 < j) = false := decide_eq_false (by omega)
          have HOK2 : Hid (okWts rows.length ws (j + 1) = true) := hide (by rw [okWts_succ, HOK.out, HWT.out]; simp; omega)
          clear hj0
          go_wp2_with fail
          generalize hA1 : World.alloc wr _ = A1
          have bA : Blk A1 wr.heap.size [.int .i64 R, .int .i64 t] 56 := by rw [← hA1]; exact Blk.newA wr _ rfl
          have hb1 : Below wr.heap.size wr A1 := by rw [← hA1]; exact bal wr _
          have a0 := bwc (bA.cell 0 rfl)
          have a1 := bwc (bA.cell 1 rfl)
          have a3 := bwc (keep hb1 s3)
          skip
          clear hA1
          refine wp_region_bw (by kernel_rfl) (by kernel_rfl) ?_
          repeat (go_big_quiet_step (fail))
          refine wpQuiet_nil ?_
          rintro _ ⟨i, rfl⟩
          have hnx := below2 hbr (below2 hb1 i.h)
          clear a0 a1 a3 s3 bA hb1 hS hbr hbw e5
          generalize i.W = W2 at hnx ⊢
          go_wp2_with fail
          go_roundw
          case rel => exact ⟨j + 1, by omega, by go_num, HOK2, hnx⟩
          case measure => simp [intOf]; omega
        · obtain ⟨b', o', e', hq, -⟩ := HWS.out (j - 1) (by omega)
          cases e'
          obtain ⟨p, hp⟩ : ∃ p, (ws.getD (j - 1) wt0).1 = p := ⟨_, rfl⟩
          have cq := keep hbw hq
          rw [hp] at cq
          have f0 : 0 < j := by omega
          obtain ⟨q, hq2, hq3⟩ : ∃ q : Nat, q = j - 1 ∧ IntKind.i64.wrap ((j : Int) - 1) = (q : Int) := ⟨j - 1, rfl, by rw [show (j : Int) - 1 = ((j - 1 : Nat) : Int) by omega]; exact IntWalk.i64_in _ ⟨by omega, by omega⟩⟩
          rw [← hq2] at cq
          have hql : q < ws.length := by omega
          have HQ := hide hq2
          have HPP := hide hp
          clear hq hq2 hp hj0
          by_cases f5 : (R : Int) ≤ p
          · have HNO : Hid (okWt rows.length ws j = false) := hide (by rw [HWT.out, HPP.out]; simp; omega)
            go_wp2_with fail
            generalize hA1 : World.alloc wr _ = A1
            have bA : Blk A1 wr.heap.size [.int .i64 R, .int .i64 t] 56 := by rw [← hA1]; exact Blk.newA wr _ rfl
            have hb1 : Below wr.heap.size wr A1 := by rw [← hA1]; exact bal wr _
            have a0 := bwc (bA.cell 0 rfl)
            have a1 := bwc (bA.cell 1 rfl)
            have a3 := bwc (keep hb1 s3)
            have ap := bwc (keep hb1 cq)
            clear hA1
            refine wp_region_bw (by kernel_rfl) (by kernel_rfl) ?_
            repeat (go_big_quiet_step (fail))
            refine wpQuiet_nil ?_
            rintro _ ⟨i, rfl⟩
            go_wp2_with fail
            go_ret
            exact ⟨ret_bool (by rw [HF.out, okWts_no HNO.out hlt]; rfl), below2 hbw (below2 hb1 i.h)⟩
          have e6 : decide ((R : Int) ≤ p) = false := decide_eq_false f5
          have HOK2 : Hid (okWts rows.length ws (j + 1) = true) := hide (by rw [okWts_succ, HOK.out, HWT.out, HPP.out]; simp; omega)
          clear f5
          go_wp2_with fail
          generalize hA1 : World.alloc wr _ = A1
          have bA : Blk A1 wr.heap.size [.int .i64 R, .int .i64 t] 56 := by rw [← hA1]; exact Blk.newA wr _ rfl
          have hb1 : Below wr.heap.size wr A1 := by rw [← hA1]; exact bal wr _
          have a0 := bwc (bA.cell 0 rfl)
          have a1 := bwc (bA.cell 1 rfl)
          have a3 := bwc (keep hb1 s3)
          have ap := bwc (keep hb1 cq)
          clear hA1
          refine wp_region_bw (by kernel_rfl) (by kernel_rfl) ?_
          repeat (go_big_quiet_step (fail))
          refine wpQuiet_nil ?_
          rintro _ ⟨i, rfl⟩
          have hnx := below2 hbr (below2 hb1 i.h)
          clear a0 a1 a3 s3 bA hb1 hS hbr hbw ap cq hq3 e6 f0
          generalize i.W = W2 at hnx ⊢
          go_wp2_with fail
          go_roundw
          case rel => exact ⟨j + 1, by omega, by go_num, HOK2, hnx⟩
          case measure => simp [intOf]; omega
      · obtain rfl : j = ws.length := by omega
        obtain ⟨V1, rfl⟩ : ∃ z, z = wr := ⟨_, rfl⟩
        have HDB := hide (minK_bd (dec := dec) HRO.out HOK.out)
        have HSB := hide (fun q i (hi : i ≤ ws.length) => sumW_bd HRO.out q i (okWts_le HOK.out hi))
        have HMB := hide (fun i (hi : i ≤ ws.length) => mostW_bd HRO.out i (okWts_le HOK.out hi))
        have HCO := hide (fun i (hi : i < ws.length) => okWt_parts (okWts_at' HOK.out hi))
        have HS3 := hide s3
        have HBW := hide hbw
        clear hbw hbr hS kS Xb Xz
        go_wp2_with fail
        clear s3
        go_loopw [9, 10, 11, 12] (fun s kk _ _ wr => ∃ q : Nat, q ≤ dec.length ∧ kk = .int .i64 q ∧ s = .int .i64 (minK rows ws dec q) ∧ Below V1.heap.size V1 wr) (fun _ kk _ _ _ => dec.length - (intOf kk).toNat)
        case atStart => exact ⟨0, by omega, rfl, rfl, Below.refl _ _⟩
        case round =>
          obtain ⟨q, hq, rfl, rfl, hbq⟩ := hrel
          obtain ⟨V2, rfl⟩ : ∃ z, z = wr := ⟨_, rfl⟩
          have hbw2 := below2 HBW.out hbq
          have s3 := keep hbq HS3.out
          by_cases hqn : q < dec.length
          · obtain ⟨b7, o7, rfl, hcq⟩ := HDS.out q hqn
            have HMK : Hid (minK rows ws dec (q + 1) = minK rows ws dec q + (if takes (dec.getD q 0) (sumW rows ws q ws.length) then sumW rows ws q ws.length else 0)) := hide rfl
            have hkb : -100000000000000 ≤ minK rows ws dec q ∧ minK rows ws dec q ≤ 100000000000000 := small_bd (HDB.out q) h6' (by omega)
            have hqI : decide (q < dec.length) = true := by simpa using hqn
            generalize dec.getD q 0 = d at HMK hcq
            generalize minK rows ws dec q = K0 at HMK hkb
            go_wp2_with fail
            go_loopw [11, 12] (fun s i wr => ∃ j : Nat, j ≤ ws.length ∧ i = .int .i64 j ∧ s = .int .i64 (sumW rows ws q j) ∧ Below V2.heap.size V2 wr) (fun _ i _ => ws.length - (intOf i).toNat)
            case atStart => exact ⟨0, by omega, rfl, rfl, Below.refl _ _⟩
            case round =>
              obtain ⟨j, hj, rfl, rfl, hbj⟩ := hrel
              have hbw3 := below2 hbw2 hbj
              replace s3 := keep hbj s3
              by_cases hlt : j < ws.length
              · have hltd : decide (j < ws.length) = true := by simpa using hlt
                obtain ⟨b, o, rfl, hw0, hw1⟩ := HWS.out j hlt
                obtain ⟨hp1, hp2, hp3, hp4⟩ := HCO.out j hlt
                obtain ⟨r, t, hrt⟩ : ∃ r t : Int, ws.getD j wt0 = (r, t) := ⟨_, _, rfl⟩
                rw [hrt] at hw0 hw1 hp1 hp2 hp3 hp4
                have HRT := hide hrt
                clear hrt
                obtain ⟨R, hRr⟩ : ∃ R : Nat, r = R := ⟨r.toNat, by have : 0 ≤ r := hp1; omega⟩
                obtain rfl := hRr
                have hR2 : R < rows.length := by have : (R : Int) < rows.length := hp2; omega
                have a0 := bwc (keep hbw3 hw0)
                have a1 := bwc (keep hbw3 hw1)
                have a3 := bwc s3
                obtain ⟨b6, o6, cv, rfl, hrow⟩ := HRS.out R hR2
                have HMEM := hide (HRO.out _ (getD_mem rows R (d := row0) hR2))
                obtain ⟨row, hrow0⟩ : ∃ row, rows.getD R row0 = row := ⟨_, rfl⟩
                rw [hrow0] at hrow HMEM
                have HROW := hide hrow0
                have HCL : Hid (row.coef.length = dec.length) := hide HMEM.out.1
                obtain ⟨-, -, -, -, y4, y5, y6⟩ := hrow
                have hco : IntsAt w cv row.coef := y6
                obtain ⟨ca, cc, rfl, -, -, hcs⟩ := id hco
                have HCS := hide hcs
                clear hrow0 y6 hco hcs hw0 hw1 hp1 hp2
                have hp3 : 1 ≤ t := hp3
                have hp4 : t ≤ 1000 := hp4
                have hqc : q < row.coef.length := by rw [HCL.out]; exact hqn
                obtain ⟨b8, o8, rfl, hcc⟩ := HCS.out q hqc
                have a6 := bwc (keep hbw3 hcc)
                have a5 := bwc (keep hbw3 y4)
                have hcb := coefs_getD HMEM.out.2.1 q
                have hsb := HSB.out q j (by omega)
                have HSS : Hid (sumW rows ws q (j + 1) = sumW rows ws q j + t * (rows.getD R row0).coef.getD q 0) := hide (by show sumW rows ws q j + (ws.getD j wt0).2 * (rows.getD (ws.getD j wt0).1.toNat row0).coef.getD q 0 = _; rw [HRT.out]; rfl)
                rw [HROW.out] at HSS
                have hpb := mul_bd ⟨hp3, hp4⟩ (M := 1000000000) hcb (by omega)
                generalize row.coef.getD q 0 = c at a6 hcb hpb HSS
                generalize sumW rows ws q j = S0 at HSS hsb
                have p1 : IntKind.i64.wrap (t * c) = t * c := IntWalk.i64_in _ ⟨by omega, by omega⟩
                have p2 : IntKind.i64.wrap (S0 + t * c) = S0 + t * c := IntWalk.i64_in _ ⟨by omega, by omega⟩
                clear hpb hsb hcc hcq
                go_wp2_with fail
                refine wp_region_bw (by kernel_rfl) (by kernel_rfl) ?_
                repeat (go_big_quiet_step (fail))
                refine wpQuiet_nil ?_
                rintro _ ⟨i, rfl⟩
                have hnx := below2 hbj i.h
                go_wp2_with fail
                go_roundw
                case rel => exact ⟨j + 1, by omega, by go_num, by rw [HSS.out], hnx⟩
                case measure => simp [intOf]; omega
              · obtain rfl : j = ws.length := by omega
                have hsb := HSB.out q ws.length (Nat.le_refl _)
                have hbn := below2 hbq hbj
                have zc := keep hbw3 hcq
                generalize sumW rows ws q ws.length = S0 at HMK hsb ⊢
                have p2 : IntKind.i64.wrap (K0 + S0) = K0 + S0 := IntWalk.i64_in _ ⟨by omega, by omega⟩
                by_cases h1 : d = 1
                · have q3 : (d == 1) = true := by simpa using h1
                  have HT : Hid (takes d S0 = true) := hide (by simp [takes, h1])
                  clear h1
                  go_wp2_with fail
                  go_roundw
                  case rel => exact ⟨q + 1, by omega, by go_num, by rw [HMK.out, HT.out]; rfl, hbn⟩
                  case measure => simp [intOf]; omega
                · have q3 : (d == 1) = false := by simpa using h1
                  by_cases h2 : d < 0
                  · by_cases h3 : S0 < 0
                    · have HT : Hid (takes d S0 = true) := hide (by simp [takes, h2, h3])
                      clear h1
                      go_wp2_with fail
                      go_roundw
                      case rel => exact ⟨q + 1, by omega, by go_num, by rw [HMK.out, HT.out]; rfl, hbn⟩
                      case measure => simp [intOf]; omega
                    · have HT : Hid (takes d S0 = false) := hide (by simp [takes, h1, h2, h3])
                      clear h1
                      go_wp2_with fail
                      go_roundw
                      case rel => exact ⟨q + 1, by omega, by go_num, by rw [HMK.out, HT.out]; simp, hbn⟩
                      case measure => simp [intOf]; omega
                  · have HT : Hid (takes d S0 = false) := hide (by simp [takes, h1, h2])
                    clear h1
                    go_wp2_with fail
                    go_roundw
                    case rel => exact ⟨q + 1, by omega, by go_num, by rw [HMK.out, HT.out]; simp, hbn⟩
                    case measure => simp [intOf]; omega
          · obtain rfl : q = dec.length := by omega
            have hkb : -100000000000000 ≤ minK rows ws dec dec.length ∧ minK rows ws dec dec.length ≤ 100000000000000 := small_bd (HDB.out dec.length) h6' (by omega)
            generalize minK rows ws dec dec.length = K0 at hkb HF ⊢
            go_wp2_with fail
            go_loopw [9, 13] (fun s i wr => ∃ j : Nat, j ≤ ws.length ∧ i = .int .i64 j ∧ s = .int .i64 (K0 - mostW rows ws j) ∧ Below V2.heap.size V2 wr) (fun _ i _ => ws.length - (intOf i).toNat)
            case atStart => exact ⟨0, by omega, rfl, by simp [mostW], Below.refl _ _⟩
            case round =>
              obtain ⟨j, hj, rfl, rfl, hbj⟩ := hrel
              have hbw3 := below2 hbw2 hbj
              replace s3 := keep hbj s3
              by_cases hlt : j < ws.length
              · have hltd : decide (j < ws.length) = true := by simpa using hlt
                obtain ⟨b, o, rfl, hw0, hw1⟩ := HWS.out j hlt
                obtain ⟨hp1, hp2, hp3, hp4⟩ := HCO.out j hlt
                obtain ⟨r, t, hrt⟩ : ∃ r t : Int, ws.getD j wt0 = (r, t) := ⟨_, _, rfl⟩
                rw [hrt] at hw0 hw1 hp1 hp2 hp3 hp4
                have HRT := hide hrt
                clear hrt
                obtain ⟨R, hRr⟩ : ∃ R : Nat, r = R := ⟨r.toNat, by have : 0 ≤ r := hp1; omega⟩
                obtain rfl := hRr
                have hR2 : R < rows.length := by have : (R : Int) < rows.length := hp2; omega
                have a0 := bwc (keep hbw3 hw0)
                have a1 := bwc (keep hbw3 hw1)
                have a3 := bwc s3
                obtain ⟨b6, o6, cv, rfl, hrow⟩ := HRS.out R hR2
                have HMEM := hide (HRO.out _ (getD_mem rows R (d := row0) hR2))
                obtain ⟨row, hrow0⟩ : ∃ row, rows.getD R row0 = row := ⟨_, rfl⟩
                rw [hrow0] at hrow HMEM
                have HROW := hide hrow0
                have HCL : Hid (row.coef.length = dec.length) := hide HMEM.out.1
                obtain ⟨-, -, -, -, y4, y5, y6⟩ := hrow
                have hco : IntsAt w cv row.coef := y6
                obtain ⟨ca, cc, rfl, -, -, hcs⟩ := id hco
                have HCS := hide hcs
                clear hrow0 y6 hco hcs hw0 hw1 hp1 hp2
                have hp3 : 1 ≤ t := hp3
                have hp4 : t ≤ 1000 := hp4
                have a5 := bwc (keep hbw3 y5)
                have hmb := HMB.out j (by omega)
                have HSS : Hid (mostW rows ws (j + 1) = mostW rows ws j + t * (rows.getD R row0).most) := hide (by show mostW rows ws j + (ws.getD j wt0).2 * (rows.getD (ws.getD j wt0).1.toNat row0).most = _; rw [HRT.out]; rfl)
                rw [HROW.out] at HSS
                have hmb2 := HMEM.out.2.2
                have hpb := mul_bd ⟨hp3, hp4⟩ (M := 1000000000000) hmb2 (by omega)
                generalize mostW rows ws j = M0 at HSS hmb
                have p1 : IntKind.i64.wrap (t * row.most) = t * row.most := IntWalk.i64_in _ ⟨by omega, by omega⟩
                have p2 : IntKind.i64.wrap (K0 - M0 - t * row.most) = K0 - M0 - t * row.most := IntWalk.i64_in _ ⟨by omega, by omega⟩
                clear hpb hmb hmb2
                go_wp2_with fail
                refine wp_region_bw (by kernel_rfl) (by kernel_rfl) ?_
                repeat (go_big_quiet_step (fail))
                refine wpQuiet_nil ?_
                rintro _ ⟨i, rfl⟩
                have hnx := below2 hbj i.h
                go_wp2_with fail
                go_roundw
                case rel => exact ⟨j + 1, by omega, by go_num, by rw [HSS.out, Int.sub_sub], hnx⟩
                case measure => simp [intOf]; omega
              · obtain rfl : j = ws.length := by omega
                go_wp2_with fail
                go_ret
                exact ⟨ret_bool (by rw [HF.out, HOK.out, Bool.true_and]; first | done | exact decide_eq_decide.2 (by omega)), hbw3⟩
  · have HN : Hid (leafB rows ⟨stv, stno, styes, ws⟩ dec = false) := hide (by
      rw [← Bool.not_eq_true]; intro hh
      simp only [leafB, Bool.and_eq_true, decide_eq_true_eq] at hh
      exact h ⟨hh.1.1.1.1.1, hh.1.1.1.1.2, hh.1.1.1.2, hh.1.1.2⟩)
    have H := hide h
    generalize leafB rows ⟨stv, stno, styes, ws⟩ dec = LB at HN ⊢
    clear h hws hrs hds hw hd hR hr
    go_enter Try.func64, Try.ntmps64
    go_wp2_with fail
    all_goals first | (go_ret; exact ⟨ret_bool (by rw [HN.out]), bal w _⟩) | skip
    all_goals (exfalso; have := H.out; simp at *; omega)
end Go.Proofs.Ytppfdjjhloaopaa
namespace Go.Proofs.Ytppfdjjhloaopaa
open Go.RowKit

theorem OwnI.stored {w : World} {B g n c : Nat} {l : List Int} (h : OwnI w B (.slice (some ⟨g, 0, none⟩) n c) l) (j : Nat) (x : Int) : OwnI (w.setCell ⟨g, j, none⟩ (.int .i64 x)) B (.slice (some ⟨g, 0, none⟩) n c) (l.set j x) := by
  have hn : n = l.length := by obtain ⟨a, c', e⟩ := h.form; cases e; rfl
  subst hn
  have h1 := World.ownsRow.stored h j (.int .i64 x)
  unfold OwnI
  rw [List.map_set, List.length_set]; exact h1.1
theorem OwnI.cellAt {w : World} {B g n c : Nat} {l : List Int} (h : OwnI w B (.slice (some ⟨g, 0, none⟩) n c) l) {j : Nat} (hj : j < l.length) : w.cell? ⟨g, j, none⟩ = some (.int .i64 (l.getD j 0)) := by
  have hn : n = l.length := by obtain ⟨a, c', e⟩ := h.form; cases e; rfl
  subst hn
  have := World.ownsRow.cellAt h j (by omega)
  rw [this, List.getElem?_map, List.getD_eq_getElem?_getD, List.getElem?_eq_getElem hj]; rfl
theorem OwnI.frozenAt {w : World} {B g n c : Nat} {l : List Int} (h : OwnI w B (.slice (some ⟨g, 0, none⟩) n c) l) (j : Nat) : w.frozen? ⟨g, j, none⟩ = false := by
  have hn : n = l.length := by obtain ⟨a, c', e⟩ := h.form; cases e; rfl
  subst hn
  exact World.ownsRow.frozenAt h j
theorem OwnI.blockB {w : World} {B g n c : Nat} {l : List Int} (h : OwnI w B (.slice (some ⟨g, 0, none⟩) n c) l) : B ≤ g := by
  rcases h.2 with ⟨e, -⟩ | ⟨g', cap, cur, e1, e2, -⟩
  · cases e
  · cases e1; exact e2
theorem OwnI.someB {w : World} {B : Nat} {v : Value} {l : List Int} (h : OwnI w B v l) (hl : 0 < l.length) : ∃ g c, v = .slice (some ⟨g, 0, none⟩) l.length c := by
  rcases h.2 with ⟨-, e⟩ | ⟨g', cap, cur, e1, e2, -⟩
  · omega
  · exact ⟨g', cap, e1⟩
/-- append([]int{}, l..): a slice of one's own -/
theorem copy_int {w : World} {ops : Array Oper} {rest : List Oper} {o : Oper} {a : Act} {Q : Exit → Act → World → Prop} (hgd : o.guard = none) (s x : Operand)
    (ho : o.op = .call { callee := .builtin .append, args := #[s, x], argTypes := #[25, 25] }) (ad : Addr) (n : Nat) (l : List Int) (hv : IntsAt w (.slice (some ad) l.length n) l)
    (nb : Nat) (hnb : nb = w.heap.size) (hs : a.eval s = .slice (some ⟨nb, 0, none⟩) 0 0) (hx : a.eval x = .slice (some ad) l.length n) (hlen : l.length < 1000000)
    (h : ∀ v' w', OwnI w' w.heap.size v' l → Below w.heap.size w w' → w.heap.size < w'.heap.size → wpList Try.prog ops Q rest (a.put o.dst v') w') :
    wpList Try.prog ops Q (o :: rest) a (w.alloc (.cells #[] 3)) := by
  subst hnb
  obtain ⟨i0, hi, hz0, hz1, hz2⟩ := info_parts infoInt
  obtain ⟨-, hnews⟩ := ints_news hv
  have hone : ∀ u ∈ l.map (Value.int .i64), u.oneCell' = true := fun u hu => by obtain ⟨x, -, rfl⟩ := List.mem_map.1 hu; rfl
  refine wpList_append_own _ hgd s x 25 ho w.heap.size 3 i0 (.int .i64 0) 1 8 Try.underlying25 hi hz0 hz1 hz2 rfl (by decide) _ 0 [] hs (World.ownsRow_lit w #[] 0 (Nat.le_refl _) (by unfold maxLen; omega) rfl)
    ad l.length n (l.map (Value.int .i64)) hx (by simp) (fun j u hj => keep (bal w _) (hnews j u hj)) hone (by unfold maxLen; omega) (by omega) (by simp) ?_
  intro v' w' hown hg _
  refine h v' w' (by simpa [OwnI] using hown) ?_ ?_
  · exact ((Below.refl _ w).alloc (Nat.le_refl _) _).grown hg (by simp) (fun k hk => by cases hk; exact Nat.le_refl _)
  · have := hg.size; simp at this; omega
set_option maxRecDepth 100000 in
set_option maxHeartbeats 4000000 in
theorem wrongr_step (rows : List RowD) (dec : List Int) (hn : dec.length ≤ 12) (hr : RowsOk rows dec.length) (rv lv dv : Value) (l : List StepD) (k : Nat) (hk : k < l.length) (w : World)
    (hR : RowsAt w rv rows) (hl : StepsIn w.cell? lv l) (hd : IntsAt w dv dec) (f : Nat)
    (hIH : ∀ (a : Nat) (dec' : List Int) (dv' : Value) (W : World), k < a → a < l.length → Below w.heap.size w W → IntsAt W dv' dec' → dec'.length = dec.length →
      Calls Try.prog 40 #[rv, lv, .int .i64 a, dv'] W (Ret (.int .i64 (wrongF rows l f a dec')) W)) :
    Calls Try.prog 40 #[rv, lv, .int .i64 k, dv] w (Ret (.int .i64 (wrongF rows l (f + 1) k dec)) w) := by
  have HIH := hide hIH
  clear hIH
  obtain ⟨la, lc, rfl, hl1, hl2, hls⟩ := id hl
  obtain ⟨lb, lo, wv, e, c0, c1, c2, c3, hw⟩ := hls k hk
  cases e
  have HLF := hide (fun W (h : Below w.heap.size w W) => leafr_any rows dec hn hr rv dv wv (l.getD k st0) W (hR.below h) (hw.keeps (keeps_of_below h)) (hd.below h))
  have HW := hide hw
  have hkl : (k : Int) ≤ 9223372036854775807 := by omega
  have hll : (l.length : Int) ≤ 9223372036854775807 := by omega
  have HNL : Hid (l.length ≤ 9223372036854775807) := hide (by omega)
  have HV : Hid (wrongF rows l (f + 1) k dec = if (l.getD k st0).var = -1 then (if leafB rows (l.getD k st0) dec then -1 else (k : Int)) else
    if partsB (l.getD k st0) k l.length dec then
      (if 0 ≤ wrongF rows l f (l.getD k st0).no.toNat (dec.set (l.getD k st0).var.toNat 0) then wrongF rows l f (l.getD k st0).no.toNat (dec.set (l.getD k st0).var.toNat 0)
        else wrongF rows l f (l.getD k st0).yes.toNat (dec.set (l.getD k st0).var.toNat 1))
    else (k : Int)) := hide rfl
  generalize wrongF rows l (f + 1) k dec = RES at HV ⊢
  clear hl hls hw hl1 hl2
  generalize l.getD k st0 = st at *
  obtain ⟨stv, stno, styes, ws⟩ := st
  obtain ⟨wa, wc, rfl, hw1, hw2, -⟩ := HW.out
  obtain ⟨da, dc, rfl, hd1, hd2, hds⟩ := id hd
  obtain ⟨ra, rc, rfl, hr1, hr2, -⟩ := id hR
  have hwc : ws.length ≤ wc := hw1
  have hwl : (ws.length : Int) ≤ 9223372036854775807 := by omega
  have HDS := hide hds
  clear hds HW
  by_cases hv : stv = -1
  · subst hv
    have HN : Hid (RES = if leafB rows ⟨-1, stno, styes, ws⟩ dec then -1 else (k : Int)) := hide (by rw [HV.out]; rfl)
    generalize leafB rows ⟨-1, stno, styes, ws⟩ dec = LB at HN HLF
    clear HV hw1 hw2 hd1 hd2 hr1 hr2 hR hd
    go_enter Try.func40, Try.ntmps40
    go_wp2_with fail
    generalize hX1 : World.alloc w _ = X1
    have zX1 : X1.heap.size = w.heap.size + 1 := by rw [← hX1]; simp
    have bX1 : Below w.heap.size w X1 := by rw [← hX1]; exact bal w _
    have kS : Blk X1 (w.heap.size) (stepCells ⟨-1, stno, styes, ws⟩ (.slice wa ws.length wc)) 54 := by rw [← hX1]; exact Blk.newA w _ (by first | rfl | simp)
    have Xb := bX1
    have Xz := zX1
    clear hX1 zX1 bX1
    have x0 := kS.cell 0 rfl
    have x1 := kS.cell 1 rfl
    have x2 := kS.cell 2 rfl
    have x3 := kS.cell 3 rfl
    go_wp2_with fail
    refine (HLF.out _ Xb).mono ?_
    rintro e w1 ⟨rfl, hb1⟩
    cases LB
    · go_wp2_with fail
      go_ret
      exact ⟨by rw [HN.out]; rfl, below2 Xb hb1⟩
    · go_wp2_with fail
      go_ret
      exact ⟨by rw [HN.out]; rfl, below2 Xb hb1⟩
  have q0 : (stv == -1) = false := by simpa using hv
  have HN0 : Hid (RES = if partsB ⟨stv, stno, styes, ws⟩ k l.length dec then
      (if 0 ≤ wrongF rows l f stno.toNat (dec.set stv.toNat 0) then wrongF rows l f stno.toNat (dec.set stv.toNat 0)
        else wrongF rows l f styes.toNat (dec.set stv.toNat 1))
    else (k : Int)) := hide (by rw [HV.out]; exact if_neg hv)
  have HPB : Hid (partsB ⟨stv, stno, styes, ws⟩ k l.length dec = (decide (0 ≤ stv) && decide (stv < dec.length) && decide (ws.length = 0) && (decide ((k : Int) < stno) && decide (stno < l.length)) && (decide ((k : Int) < styes) && decide (styes < l.length)) && decide (dec.getD stv.toNat 0 < 0))) := hide rfl
  have HNO : Hid (partsB ⟨stv, stno, styes, ws⟩ k l.length dec = false → RES = (k : Int)) := hide (fun h => by rw [HN0.out, h]; rfl)
  have HYES : Hid (partsB ⟨stv, stno, styes, ws⟩ k l.length dec = true → RES = if 0 ≤ wrongF rows l f stno.toNat (dec.set stv.toNat 0) then wrongF rows l f stno.toNat (dec.set stv.toNat 0)
        else wrongF rows l f styes.toNat (dec.set stv.toNat 1)) := hide (fun h => by rw [HN0.out, h]; rfl)
  clear HN0 HV hv hw1 hw2 HLF
  by_cases f1 : stv < 0
  · have HN : Hid (RES = k) := hide (HNO.out (by rw [HPB.out]; simp; omega))
    go_enter Try.func40, Try.ntmps40
    go_wp2_with fail
    go_ret
    exact ⟨by rw [HN.out]; rfl, bal w _⟩
  obtain ⟨V, hV⟩ : ∃ V : Nat, stv = V := ⟨stv.toNat, by omega⟩
  obtain rfl := hV
  have e1 : decide ((V : Int) < 0) = false := by simp
  by_cases f2 : dec.length ≤ V
  · have HN : Hid (RES = k) := hide (HNO.out (by rw [HPB.out]; simp; omega))
    go_enter Try.func40, Try.ntmps40
    go_wp2_with fail
    go_ret
    exact ⟨by rw [HN.out]; rfl, bal w _⟩
  have e2 : decide (dec.length ≤ V) = false := decide_eq_false f2
  have hVd : V < dec.length := by omega
  by_cases f3 : 0 < ws.length
  · have HN : Hid (RES = k) := hide (HNO.out (by rw [HPB.out]; simp; intro _ h; rw [h] at f3; simp at f3))
    go_enter Try.func40, Try.ntmps40
    go_wp2_with fail
    go_ret
    exact ⟨by rw [HN.out]; rfl, bal w _⟩
  have e3 : decide (0 < ws.length) = false := decide_eq_false f3
  by_cases f4 : stno ≤ k
  · have HN : Hid (RES = k) := hide (HNO.out (by rw [HPB.out]; simp; omega))
    go_enter Try.func40, Try.ntmps40
    go_wp2_with fail
    go_ret
    exact ⟨by rw [HN.out]; rfl, bal w _⟩
  have e4 : decide (stno ≤ k) = false := decide_eq_false f4
  by_cases f4b : (l.length : Int) ≤ stno
  · have HN : Hid (RES = k) := hide (HNO.out (by rw [HPB.out]; simp; omega))
    go_enter Try.func40, Try.ntmps40
    go_wp2_with fail
    go_ret
    exact ⟨by rw [HN.out]; rfl, bal w _⟩
  have e4b : decide ((l.length : Int) ≤ stno) = false := decide_eq_false f4b
  by_cases f5 : styes ≤ k
  · have HN : Hid (RES = k) := hide (HNO.out (by rw [HPB.out]; simp; omega))
    go_enter Try.func40, Try.ntmps40
    go_wp2_with fail
    go_ret
    exact ⟨by rw [HN.out]; rfl, bal w _⟩
  have e5 : decide (styes ≤ k) = false := decide_eq_false f5
  by_cases f5b : (l.length : Int) ≤ styes
  · have HN : Hid (RES = k) := hide (HNO.out (by rw [HPB.out]; simp; omega))
    go_enter Try.func40, Try.ntmps40
    go_wp2_with fail
    go_ret
    exact ⟨by rw [HN.out]; rfl, bal w _⟩
  have e5b : decide ((l.length : Int) ≤ styes) = false := decide_eq_false f5b
  obtain ⟨b, o, rfl, hcd⟩ := HDS.out V hVd
  obtain ⟨d, hdd⟩ : ∃ d, dec.getD V 0 = d := ⟨_, rfl⟩
  rw [hdd] at hcd
  have hcd1 := fun O => keep (bal w O) hcd
  have HDD : Hid (dec.getD (V : Int).toNat 0 = d) := hide (by rw [Int.toNat_natCast]; exact hdd)
  clear hdd
  have q1 : (ws.length == 0) = true := by simp; exact List.eq_nil_of_length_eq_zero (by omega)
  by_cases f6 : 0 ≤ d
  · have HN : Hid (RES = k) := hide (HNO.out (by rw [HPB.out, HDD.out]; simp; omega))
    go_enter Try.func40, Try.ntmps40
    go_wp2_with fail
    go_ret
    exact ⟨by rw [HN.out]; rfl, bal w _⟩
  have HN := hide (HYES.out (by rw [HPB.out, HDD.out]; simp at q1 ⊢; simp [q1]; omega))
  have hks : (k : Int) < stno := by omega
  have hky : (k : Int) < styes := by omega
  obtain ⟨A0, hA0⟩ : ∃ A : Nat, stno = A := ⟨stno.toNat, by omega⟩
  obtain ⟨A1, hA1⟩ : ∃ A : Nat, styes = A := ⟨styes.toNat, by omega⟩
  subst hA0 hA1
  rw [Int.toNat_natCast, Int.toNat_natCast, Int.toNat_natCast] at HN
  have hk0 : k < A0 := by omega
  have hk1 : k < A1 := by omega
  have hA0l : A0 < l.length := by omega
  have hA1l : A1 < l.length := by omega
  have q6 : decide (0 ≤ d) = false := decide_eq_false f6
  have n4 : decide (A0 ≤ k) = false := decide_eq_false (by omega)
  have n5 : decide (l.length ≤ A0) = false := decide_eq_false (by omega)
  have n6 : decide (A1 ≤ k) = false := decide_eq_false (by omega)
  have n7 : decide (l.length ≤ A1) = false := decide_eq_false (by omega)
  clear e1 e2 e3 e4 e4b e5 e5b
  have e2 : decide (dec.length ≤ V) = false := decide_eq_false (by omega)
  have e3 : decide (0 < ws.length) = false := decide_eq_false f3
  have HC0 := hide (fun dv' W hb hi => HIH.out A0 (dec.set V 0) dv' W hk0 hA0l hb hi (by simp))
  have HC1 := hide (fun dv' W hb hi => HIH.out A1 (dec.set V 1) dv' W hk1 hA1l hb hi (by simp))
  have HR1 := hide (wrongF_range rows l f A0 (dec.set V 0))
  generalize wrongF rows l f A0 (dec.set V 0) = R0 at HN HC0 HR1
  have HR2 := hide (wrongF_range rows l f A1 (dec.set V 1))
  generalize wrongF rows l f A1 (dec.set V 1) = R1 at HN HC1 HR2
  have hnl : dec.length < 1000000 := by omega
  have hd0 : 0 < dec.length := by omega
  have HDA := hide (fun W (h : Below w.heap.size w W) => hd.below h)
  have HCD := hide hcd
  have hdl : (dec.length : Int) ≤ 9223372036854775807 := by omega
  clear f1 f2 f3 f4 f4b f5 f5b f6 hcd hd hR hr hd1 hd2 hr1 hr2 HPB HYES HNO hks hky hk0 hk1 hA0l hA1l HIH HDS HDD hwc hn
  go_enter Try.func40, Try.ntmps40
  go_upto_region 10 with fail
  generalize hX1 : World.alloc w _ = X1
  have zX1 : X1.heap.size = w.heap.size + 1 := by rw [← hX1]; simp
  have bX1 : Below w.heap.size w X1 := by rw [← hX1]; exact bal w _
  have kS : Blk X1 (w.heap.size) (stepCells ⟨V, A0, A1, ws⟩ (.slice wa ws.length wc)) 54 := by rw [← hX1]; exact Blk.newA w _ (by first | rfl | simp)
  have Xb := bX1
  have Xz := zX1
  clear hX1 zX1 bX1
  clear hcd1 c0 c1 c2 c3
  go_wp2_with fail
  go_loopw [10] (fun i wr => ∃ t : Nat, t ≤ 2 ∧ i = .int .i64 t ∧ (0 < t → R0 < 0) ∧ (1 < t → R1 < 0) ∧ Below X1.heap.size X1 wr) (fun i _ => 2 - (intOf i).toNat)
  case atStart => exact ⟨0, by omega, rfl, fun h => by omega, fun h => by omega, Below.refl _ _⟩
  case round =>
    obtain ⟨t, ht, rfl, hr0, hr1, hbr⟩ := hrel
    have hS := kS.later hbr
    have hbw := below2 Xb hbr
    have x0 := hS.cell 0 rfl
    have x1 := hS.cell 1 rfl
    have x2 := hS.cell 2 rfl
    match t, ht with
    | 0, _ =>
      have tok : True := trivial
      clear x0 x1 x2
      go_upto_region 14 with (at_builtin; have _t := tok; refine copy_int rfl _ _ rfl ⟨b, o, none⟩ _ dec (HDA.out _ hbw) _ rfl rfl rfl hnl ?_; intro v1 w1 hown1 hb1 hz1; clear tok)
      obtain ⟨g1, n1, rfl⟩ := hown1.someB hd0
      have hST1 := hS.later hb1
      have hgB : wr.heap.size ≤ g1 := hown1.blockB
      have x0 := hST1.cell 0 rfl
      have x1 := hST1.cell 1 rfl
      have x2 := hST1.cell 2 rfl
      have y1 := hown1.cellAt hVd
      have y2 := hown1.frozenAt V
      have hi := (hown1.stored V 0).ints
      have hbW := hb1.setCell (p := ⟨g1, V, none⟩) hgB (.int .i64 0)
      have hST2 := hST1.other (show w.heap.size ≠ g1 by have := hS.lt; omega) V (.int .i64 0)
      go_upto_region 15 with fail
      generalize World.setCell w1 _ _ = W3 at hi hbW hST2 ⊢
      clear x0 x1 x2 y1 y2 hST1 hown1 hb1
      have x1 := hST2.cell 1 rfl
      have x2 := hST2.cell 2 rfl
      have hbw3 := below2 hbw hbW
      go_wp2_with fail
      refine (HC0.out _ _ hbw3 hi).mono ?_
      rintro e w4 ⟨rfl, hb4⟩
      have hbw4 := below2 hbw3 hb4
      by_cases hz : R0 < 0
      · have hzd : decide (0 ≤ R0) = false := decide_eq_false (by omega)
        have hnx := below2 hbr (below2 hbW hb4)
        go_wp2_with fail
        go_roundw
        case rel => exact ⟨1, by omega, by go_num, fun _ => hz, fun _ => (by omega), hnx⟩
        case measure => simp [intOf]
      · have hzd : decide (0 ≤ R0) = true := decide_eq_true (by omega)
        have HRES : Hid (RES = R0) := hide (by rw [HN.out, if_pos (by omega)])
        go_wp2_with fail
        go_ret
        exact ⟨by rw [HRES.out]; rfl, hbw4⟩
    | 1, _ =>
      have h0 := hr0 (by omega)
      have tok : True := trivial
      clear x0 x1 x2
      go_upto_region 14 with (at_builtin; have _t := tok; refine copy_int rfl _ _ rfl ⟨b, o, none⟩ _ dec (HDA.out _ hbw) _ rfl rfl rfl hnl ?_; intro v1 w1 hown1 hb1 hz1; clear tok)
      obtain ⟨g1, n1, rfl⟩ := hown1.someB hd0
      have hST1 := hS.later hb1
      have hgB : wr.heap.size ≤ g1 := hown1.blockB
      have x0 := hST1.cell 0 rfl
      have x1 := hST1.cell 1 rfl
      have x2 := hST1.cell 2 rfl
      have y1 := hown1.cellAt hVd
      have y2 := hown1.frozenAt V
      have hi := (hown1.stored V 1).ints
      have hbW := hb1.setCell (p := ⟨g1, V, none⟩) hgB (.int .i64 1)
      have hST2 := hST1.other (show w.heap.size ≠ g1 by have := hS.lt; omega) V (.int .i64 1)
      go_upto_region 15 with fail
      generalize World.setCell w1 _ _ = W3 at hi hbW hST2 ⊢
      clear x0 x1 x2 y1 y2 hST1 hown1 hb1
      have x1 := hST2.cell 1 rfl
      have x2 := hST2.cell 2 rfl
      have hbw3 := below2 hbw hbW
      go_wp2_with fail
      refine (HC1.out _ _ hbw3 hi).mono ?_
      rintro e w4 ⟨rfl, hb4⟩
      have hbw4 := below2 hbw3 hb4
      by_cases hz : R1 < 0
      · have hzd : decide (0 ≤ R1) = false := decide_eq_false (by omega)
        have hnx := below2 hbr (below2 hbW hb4)
        go_wp2_with fail
        go_roundw
        case rel => exact ⟨2, by omega, by go_num, fun _ => h0, fun _ => hz, hnx⟩
        case measure => simp [intOf]
      · have hzd : decide (0 ≤ R1) = true := decide_eq_true (by omega)
        have HRES : Hid (RES = R1) := hide (by rw [HN.out, if_neg (by omega)])
        go_wp2_with fail
        go_ret
        exact ⟨by rw [HRES.out]; rfl, hbw4⟩
    | 2, _ =>
      have h0 := hr0 (by omega)
      have h1 := hr1 (by omega)
      have HRES : Hid (RES = -1) := hide (by rw [HN.out, if_neg (by omega)]; have := HR2.out; omega)
      go_wp2_with fail
      go_ret
      exact ⟨by rw [HRES.out]; rfl, hbw⟩
theorem wrongr_any (rows : List RowD) (rv lv : Value) (l : List StepD) : ∀ (f a : Nat) (dec : List Int) (dv : Value) (w : World), a < l.length → l.length ≤ a + f → dec.length ≤ 12 → RowsOk rows dec.length → RowsAt w rv rows → StepsIn w.cell? lv l → IntsAt w dv dec →
    Calls Try.prog 40 #[rv, lv, .int .i64 a, dv] w (Ret (.int .i64 (wrongF rows l f a dec)) w)
  | 0, a, dec, dv, w, ha, hf, _, _, _, _, _ => by omega
  | f + 1, a, dec, dv, w, ha, hf, hn, hr, hR, hl, hd =>
    wrongr_step rows dec hn hr rv lv dv l a ha w hR hl hd f fun a' dec' dv' W hka hal hb hd' hl' =>
      wrongr_any rows rv lv l f a' dec' dv' W hal (by omega) (by omega) (by rw [hl']; exact hr) (hR.below hb) (hl.keeps (keeps_of_below hb)) hd'
end Go.Proofs.Ytppfdjjhloaopaa
