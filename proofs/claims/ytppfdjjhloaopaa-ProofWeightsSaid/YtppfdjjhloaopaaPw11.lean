/- Walks of proof and Solve of package program. Conditions: how the arguments lie in memory; sizes; that at the last thing some row refutes. -/
import Derived.Test.YtppfdjjhloaopaaPw10
import Derived.Laws.EntriesVeiled
namespace Go.Proofs.Ytppfdjjhloaopaa
open Go.RowKit Go.Shelf

theorem grow_any (rows : List RowD) (n : Nat) (hn : n ≤ 12) (hrs : ∀ r ∈ rows, r.coef.length = n ∧ coefsB r.coef = true) (href : ∀ s, s < 2 ^ n → rows.any (badB n s) = true)
    (rv : Value) (B Bo Br Bg : Nat) (hBo : Bo < B) (hBr : Br < B) (hBg : Bg < B) (hor : Bo ≠ Br) (hog : Bo ≠ Bg) (w0 : World) (hr0 : RowsAt w0 rv rows) (h0o : w0.heap.size ≤ Bo) :
    ∀ (f d s : Nat) (l : List StepD) (v : Value) (W : World), d + f = n → s < 2 ^ d → l.length + 2 ^ (f + 1) ≤ 10000 → Below w0.heap.size w0 W → Blk W Bo [v] 30 → StepsOwn W B v l → Blk W Br [rv] 24 →
      Blk W Bg [.func (.func 75) #[] #[.pointer (some ⟨Bo, 0, none⟩), .pointer (some ⟨Br, 0, none⟩), .pointer (some ⟨Bg, 0, none⟩)]] 49 → B ≤ W.heap.size →
      Calls Try.prog 75 #[.int .i64 d, .int .i64 s, .pointer (some ⟨Bo, 0, none⟩), .pointer (some ⟨Br, 0, none⟩), .pointer (some ⟨Bg, 0, none⟩)] W (GrowQ B Bo l.length (l ++ growF rows f d s l.length) W)
  | 0, d, s, l, v, W, hdf, hs, hlen, h0W, hO, hS, hR, hG, hBW => by
    obtain rfl : d = n := by omega
    have hany := href s hs
    exact grow_leaf rows d hn hrs rv B Bo Br Bg hBo hBr hBg hor hog w0 hr0 h0o d s l v W (Nat.le_refl _) (by omega) h0W hO hS hR hBW hany
  | f + 1, d, s, l, v, W, hdf, hs, hlen, h0W, hO, hS, hR, hG, hBW => by
    cases hany : rows.any (badB d s)
    · exact grow_node rows n hn hrs rv B Bo Br Bg hBo hBr hBg hor hog w0 hr0 h0o f d s l v W (by omega) hs hlen h0W hO hS hR hG hBW hany
        (fun s l v W h1 h2 h3 h4 h5 h6 h7 h8 => by
          have := grow_any rows n hn hrs href rv B Bo Br Bg hBo hBr hBg hor hog w0 hr0 h0o f (d + 1) s l v W (by omega) h1 h2 h3 h4 h5 h6 h7 h8
          rwa [show ((d + 1 : Nat) : Int) = (d : Int) + 1 from by omega] at this)
    · have e : growF rows (f + 1) d s l.length = [leafF (idxF (badB d s) rows)] := by simp only [growF]; rw [if_pos hany]
      rw [e]
      have hp : 1 ≤ 2 ^ (f + 1 + 1) := Nat.one_le_two_pow
      exact grow_leaf rows n hn hrs rv B Bo Br Bg hBo hBr hBg hor hog w0 hr0 h0o d s l v W (by omega) (by omega) h0W hO hS hR hBW hany
/-- weights in memory -/
def WtsIn (c : Rd) (v : Value) (l : List (Int × Int)) : Prop :=
  ∃ a n, v = .slice a l.length n ∧ l.length ≤ n ∧ n ≤ 9223372036854775807 ∧ ∀ k, k < l.length → ∃ b o, a = some ⟨b, o, none⟩ ∧ c ⟨b, o + k * 2, none⟩ = some (.int .i64 (l.getD k (0, 0)).1) ∧ c ⟨b, o + k * 2 + 1, none⟩ = some (.int .i64 (l.getD k (0, 0)).2)
theorem WtsIn.keeps {c c' : Rd} {v : Value} {l : List (Int × Int)} (hk : Keeps c c') (h : WtsIn c v l) : WtsIn c' v l := by
  obtain ⟨a, n, h1, h2, h3, h4⟩ := h
  exact ⟨a, n, h1, h2, h3, fun k hl => let ⟨b, o, e, hc, hd⟩ := h4 k hl; ⟨b, o, e, hk _ _ hc, hk _ _ hd⟩⟩
def StepIn (c : Rd) (b o : Nat) (wv : Value) (s : StepD) : Prop :=
  c ⟨b, o, none⟩ = some (.int .i64 s.var) ∧ c ⟨b, o + 1, none⟩ = some (.int .i64 s.no) ∧ c ⟨b, o + 2, none⟩ = some (.int .i64 s.yes) ∧ c ⟨b, o + 3, none⟩ = some wv ∧ WtsIn c wv s.wts
/-- a slice of steps that holds l -/
def StepsIn (c : Rd) (v : Value) (l : List StepD) : Prop :=
  ∃ a n, v = .slice a l.length n ∧ l.length ≤ n ∧ n ≤ 9223372036854775807 ∧ ∀ k, k < l.length → ∃ b o wv, a = some ⟨b, o, none⟩ ∧ StepIn c b (o + k * 4) wv (l.getD k st0)
theorem StepsIn.keeps {c c' : Rd} {v : Value} {l : List StepD} (hk : Keeps c c') (h : StepsIn c v l) : StepsIn c' v l := by
  obtain ⟨a, n, h1, h2, h3, h4⟩ := h
  exact ⟨a, n, h1, h2, h3, fun k hl => let ⟨b, o, wv, e, c0, c1, c2, c3, c4⟩ := h4 k hl; ⟨b, o, wv, e, hk _ _ c0, hk _ _ c1, hk _ _ c2, hk _ _ c3, c4.keeps hk⟩⟩
theorem StepsIn.nil (c : Rd) : StepsIn c (.slice none 0 0) [] := ⟨none, 0, rfl, Nat.le_refl _, by omega, fun k hk => by simp at hk⟩
theorem OwnW.at {W : World} {B : Nat} {wv : Value} {ws : List (Int × Int)} (h : OwnW W B wv ws) : WtsIn (frm B W) wv ws := by
  rcases h with ⟨rfl, rfl⟩ | ⟨b, r, hb, hB, rfl, rfl⟩
  · exact ⟨none, 0, rfl, by simp, by omega, fun k hk => by simp at hk⟩
  · refine ⟨some ⟨b, 0, none⟩, 1, rfl, by simp, by omega, fun k hk => ⟨b, 0, rfl, ?_⟩⟩
    obtain rfl : k = 0 := by simp at hk; omega
    exact ⟨frm_pos hB (hb.cell 0 rfl), frm_pos hB (hb.cell 1 rfl)⟩
theorem StepsOwn.at {W : World} {B : Nat} {v : Value} {l : List StepD} (h : StepsOwn W B v l) : StepsIn (frm B W) v l := by
  obtain ⟨L, hOR, hl, hs⟩ := h
  rcases hOR.form with ⟨rfl, e2⟩ | ⟨g, c, cur, rfl, e1, e2, e3, e4⟩
  · rw [e2] at hl
    exact ⟨none, 0, by rw [← hl]; rfl, by rw [← hl]; simp, by omega, fun k hk => by rw [← hl] at hk; simp at hk⟩
  · refine ⟨some ⟨g, 0, none⟩, c, by rw [hl], by omega, by simpa [maxLen] using e4, fun k hk => ?_⟩
    obtain ⟨wv, e, hw⟩ := hs k hk
    have cc : ∀ (j : Nat) (u : Value), j < 4 → (stepCells (l.getD k st0) wv)[j]? = some u → frm B W ⟨g, 0 + k * 4 + j, none⟩ = some u := fun j u hj hu => by
      rw [Nat.zero_add]; exact frm_pos e1 (hOR.cell k j (by omega) hj (by rw [e]; exact hu))
    exact ⟨g, 0, wv, rfl, cc 0 _ (by omega) rfl, cc 1 _ (by omega) rfl, cc 2 _ (by omega) rfl, cc 3 _ (by omega) rfl, hw.at⟩
set_option maxHeartbeats 1000000 in
theorem proof_any (rows : List RowD) (n : Nat) (hn : n ≤ 12) (hrs : ∀ r ∈ rows, r.coef.length = n ∧ coefsB r.coef = true) (href : ∀ s, s < 2 ^ n → rows.any (badB n s) = true) (rv : Value) (w : World) (hr : RowsAt w rv rows) :
    Calls Try.prog 52 #[rv] w (RetM (fun c v => StepsIn c v (growF rows n 0 0 0)) w) := by
  obtain ⟨ra, rc, rfl, -, -, -⟩ := id hr
  go_enter Try.func52, Try.ntmps52
  go_wp2_with fail
  generalize hW : World.alloc (World.alloc (World.alloc w _) _) _ = W3
  have hz : W3.heap.size = w.heap.size + 1 + 1 + 1 := by rw [← hW]; simp
  have hb3 : Below w.heap.size w W3 := by rw [← hW]; exact (((Below.refl _ _).alloc (Nat.le_refl _) _).alloc (by simp) _).alloc (by simp; omega) _
  have b0 : Blk W3 w.heap.size [.slice ra rows.length rc] 24 := by
    rw [← hW]
    exact (((Blk.new w [.slice ra rows.length rc] 24).old _).old _)
  have b1 : Blk W3 (w.heap.size + 1) [.slice none 0 0] 30 := by
    rw [← hW]
    have := ((Blk.new (w.alloc (.cells #[.slice ra rows.length rc] 24)) [.slice none 0 0] 30).old (.cells #[.func (.func 75) #[] #[.pointer (some ⟨w.heap.size + 1, 0, none⟩), .pointer (some ⟨w.heap.size, 0, none⟩), .pointer (some ⟨w.heap.size + 1 + 1, 0, none⟩)]] 49))
    simpa using this
  have b2 : Blk W3 (w.heap.size + 1 + 1) [.func (.func 75) #[] #[.pointer (some ⟨w.heap.size + 1, 0, none⟩), .pointer (some ⟨w.heap.size, 0, none⟩), .pointer (some ⟨w.heap.size + 1 + 1, 0, none⟩)]] 49 := by
    rw [← hW]
    have := Blk.new ((w.alloc (.cells #[.slice ra rows.length rc] 24)).alloc (.cells #[.slice none 0 0] 30)) [.func (.func 75) #[] #[.pointer (some ⟨w.heap.size + 1, 0, none⟩), .pointer (some ⟨w.heap.size, 0, none⟩), .pointer (some ⟨w.heap.size + 1 + 1, 0, none⟩)]] 49
    simpa using this
  have HC := hide (grow_any rows n hn hrs href (.slice ra rows.length rc) W3.heap.size (w.heap.size + 1) w.heap.size (w.heap.size + 1 + 1) (by omega) (by omega) (by omega) (by omega) (by omega) w hr (by omega) n 0 0 [] (.slice none 0 0) W3 (by omega) (by simp) (by
    have : 2 ^ (n + 1) ≤ 2 ^ 13 := Nat.pow_le_pow_right (by omega) (by omega)
    simp; omega) hb3 b1 ⟨[], OwnR.nil _ _ _ _, rfl, fun i hi => by simp at hi⟩ b0 b2 (Nat.le_refl _))
  clear hW hz
  refine HC.out.mono ?_
  rintro e W4 ⟨rfl, v, hO, hS, hE⟩
  have o0 := hO.cell 0 rfl
  go_wp2
  go_ret
  exact ⟨_, rfl, hS.at.keeps (keeps_frm_le _ hb3.size), hE.below hb3 (by omega) hb3.size⟩
end Go.Proofs.Ytppfdjjhloaopaa
