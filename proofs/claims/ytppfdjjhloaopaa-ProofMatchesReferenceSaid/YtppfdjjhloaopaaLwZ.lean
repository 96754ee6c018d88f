/- What the walks of the laws over a program share. No condition. -/
import Derived.Test.YtppfdjjhloaopaaPw18
namespace Go.Proofs.Ytppfdjjhloaopaa
open Go.RowKit

theorem TrisIn.keeps {c c' : Rd} {v : Value} {l : List Tri} (hk : Keeps c c') (h : TrisIn c v l) : TrisIn c' v l := by
  obtain ⟨a, n, h1, h2, h3, h4⟩ := h
  exact ⟨a, n, h1, h2, h3, fun k hl => let ⟨b, o, e, c0, c1, c2⟩ := h4 k hl; ⟨b, o, e, hk _ _ c0, hk _ _ c1, hk _ _ c2⟩⟩
theorem made_form (v : Int) (x : List Tri) (g : List Int) : ∃ (n : Nat) (rows : List RowD) (gain : List Int), madeF v x g = ⟨n, rows, gain⟩ ∧ n ≤ 8 ∧ rows.length ≤ 8 ∧ validB ⟨n, rows, gain⟩ = true :=
  ⟨mvars v, _, _, rfl, mvars_le v, by rw [mrows_len]; omega, made_valid v x g⟩
end Go.Proofs.Ytppfdjjhloaopaa
