/- Register: an append of a record to a slice of one's own; the walk of marks. Conditions: how the arguments lie in memory. -/
import Derived.Test.YtoofkahklboojaaDoorRkC
namespace Go.Proofs.YtoofkahklboojaaDoor
open Go.RowKit

/-- records of the kind f, of type e -/
structure RKind {α : Type} (f : α → List Value) (k : Nat) (e : TypeId) : Prop where
  len : ∀ x, (f x).length = k
  one : ∀ x, ∀ u ∈ f x, u.oneCell' = true
theorem app_recM {α : Type} {f : α → List Value} {w : World} {ops : Array Oper} {rest : List Oper} {o : Oper} {a : Act} {Q : Exit → Act → World → Prop} {e t : TypeId} {k by_ : Nat} {z : Value} (hf : RKind f k e)
    (hinfo : (Tryd.prog.info? e).map (fun i => (i.zero, i.size, i.bytes)) = some (some z, k, by_)) (hzk : z.cells.size = k) (hk : 0 < k) (hu : Tryd.prog.underlying t = some (.slice e)) (hby : by_ ≤ 1000) (hgd : o.guard = none) (s x : Operand)
    (ho : o.op = .call { callee := .builtin .append, args := #[s, x], argTypes := #[t, t] }) (B : Nat) (v : Value) (l : List α) (hs : a.eval s = v) (hown : OwnR w B e k v (l.map f)) (y : α)
    (nb : Nat) (hx : a.eval x = .slice (some ⟨nb, 0, none⟩) 1 1) (hnb : nb = w.heap.size) (hlen : l.length < 1000000) (hB : B ≤ w.heap.size)
    (h : ∀ g c w', OwnR w' B e k (.slice (some ⟨g, 0, none⟩) (l.length + 1) c) ((l ++ [y]).map f) → EffE B e w w' → w.heap.size < w'.heap.size → wpList Tryd.prog ops Q rest (a.put o.dst (.slice (some ⟨g, 0, none⟩) (l.length + 1) c)) w') :
    wpList Tryd.prog ops Q (o :: rest) a (w.alloc (.cells (f y).toArray e)) := by
  refine app_rec hinfo hzk hk hu hgd s x ho B v (l.map f) hs hown (f y) (hf.len y) (hf.one y) nb hx hnb ?_ (by simpa using hlen) hB ?_
  · rw [List.length_map]
    have : (l.length + 1) * by_ ≤ (l.length + 1) * 1000 := Nat.mul_le_mul_left _ hby
    omega
  · intro g c w' h1 h2 h3
    have e1 : (l.map f ++ [f y]) = (l ++ [y]).map f := by simp
    rw [e1] at h1
    have e2 : ((l ++ [y]).map f).length = l.length + 1 := by simp
    rw [e2] at h1
    rw [List.length_map]
    exact h g c w' h1 h2 h3
def pairC (r : DotD × DotD) : List Value := dotC r.1 ++ dotC r.2
def pair0 : DotD × DotD := (dot0, dot0)
abbrev PairsIn (c : Rd) (v : Value) (l : List (DotD × DotD)) : Prop := RecIn pairC pair0 8 c v l
abbrev PairsAt (w : World) (v : Value) (l : List (DotD × DotD)) : Prop := RecIn pairC pair0 8 w.cell? v l
theorem kindPair : RKind pairC 8 86 := ⟨fun x => rfl, fun x u hu => by simp [pairC, dotC] at hu; rcases hu with rfl | rfl | rfl | rfl | rfl | rfl | rfl | rfl <;> rfl⟩
theorem infoPair : (Tryd.prog.info? 86).map (fun i => (i.zero, i.size, i.bytes)) = some (some (.agg #[iV 0, iV 0, iV 0, iV 0, iV 0, iV 0, iV 0, iV 0]), 8, 64) := by kernel_rfl
/-- the pairs of one element -/
def rowOf (p : DotD) (b : List DotD) : List (DotD × DotD) := (b.filter fun q => decide (p.id = q.id) && decide (p.id ≤ 19)).map fun q => (p, q)
def isMark (p q : DotD) : Bool := decide (p.id = q.id) && decide (p.id ≤ 19)
theorem rowOf_len (p : DotD) (b : List DotD) : (rowOf p b).length ≤ b.length := by unfold rowOf; rw [List.length_map]; exact List.length_filter_le _ _
theorem marksRaw_len (b : List DotD) : ∀ a : List DotD, (marksRaw a b).length ≤ a.length * b.length
  | [] => by simp [marksRaw]
  | p :: t => by
    have ih := marksRaw_len b t
    have h : marksRaw (p :: t) b = rowOf p b ++ marksRaw t b := rfl
    have := rowOf_len p b
    rw [h, List.length_append, List.length_cons, Nat.succ_mul]; omega
theorem marksRaw_succ (a b : List DotD) (k : Nat) (hk : k < a.length) : marksRaw (a.take (k + 1)) b = marksRaw (a.take k) b ++ rowOf (a.getD k dot0) b := by
  rw [take_succ' a k dot0 hk]
  unfold marksRaw rowOf
  rw [List.flatMap_append]
  simp
theorem rowOf_succ (p : DotD) (b : List DotD) (k : Nat) (hk : k < b.length) : rowOf p (b.take (k + 1)) = rowOf p (b.take k) ++ if isMark p (b.getD k dot0) then [(p, b.getD k dot0)] else [] := by
  rw [take_succ' b k dot0 hk]
  unfold rowOf isMark
  rw [List.filter_append, List.map_append]
  congr 1
  by_cases h : (decide (p.id = (b.getD k dot0).id) && decide (p.id ≤ 19)) = true
  · rw [if_pos h]; simp only [List.filter_cons, List.filter_nil, h, if_true, List.map_cons, List.map_nil]
  · rw [if_neg h]; simp only [List.filter_cons, List.filter_nil, h]; simp
theorem valid_len {l : List DotD} (h : validD l = true) : l.length ≤ 12 := by
  unfold validD at h; simp at h; exact h.2
set_option maxRecDepth 20000 in
set_option maxHeartbeats 4000000 in
theorem marks_any (a b : List DotD) (va vb : Value) (w : World) (ha : DotsAt w va a) (hb : DotsAt w vb b) :
    Calls Tryd.prog 36 #[va, vb] w (RetM (fun c v => PairsIn c v (marksD a b)) w) := by
  have HM : Hid (marksD a b = if validD a && validD b then marksRaw a b else []) := hide rfl
  cases hva : validD a
  · rw [hva] at HM
    go_enter Tryd.func36, Tryd.ntmps36
    go_wp2_with fail
    refine (rvalid_any a _ _ ha).mono ?_
    rw [hva]
    rintro e w1 ⟨rfl, hw1⟩
    go_wp2_with fail
    go_ret
    exact ⟨_, rfl, by rw [HM.out]; exact RecIn.nil _, hw1⟩
  · cases hvb : validD b
    · rw [hvb] at HM
      go_enter Tryd.func36, Tryd.ntmps36
      go_wp2_with fail
      refine (rvalid_any a _ _ ha).mono ?_
      rw [hva]
      rintro e w1 ⟨rfl, hw1⟩
      go_wp2_with fail
      refine (rvalid_any b _ _ (hb.below hw1)).mono ?_
      rw [hvb]
      rintro e w2 ⟨rfl, hw2⟩
      go_wp2_with fail
      go_ret
      exact ⟨_, rfl, by rw [HM.out]; simp; exact RecIn.nil _, below2 hw1 hw2⟩
    · rw [hva, hvb] at HM
      have hla := valid_len hva
      have hlb := valid_len hvb
      have HVA := hide (rvalid_any a va w ha)
      have HVB := hide (fun w' h => rvalid_any b vb w' (hb.below (W := w') h))
      rw [hva] at HVA
      rw [hvb] at HVB
      obtain ⟨aa, ac, rfl, -, -, hca⟩ := ha
      obtain ⟨ba, bc, rfl, -, -, hcb⟩ := hb
      have HA := hide hca
      have HB := hide hcb
      clear hva hvb hca hcb
      go_enter Tryd.func36, Tryd.ntmps36
      go_wp2_with fail
      refine HVA.out.mono ?_
      rintro e w1 ⟨rfl, hw1⟩
      go_wp2_with fail
      refine (HVB.out _ hw1).mono ?_
      rintro e w2 ⟨rfl, hw2⟩
      have hw12 := below2 hw1 hw2
      clear HVA HVB
      go_wp2_with fail
      go_loopw [5, 20] (fun v i wr => ∃ (k : Nat), k ≤ a.length ∧ i = .int .i64 k ∧ OwnR wr w.heap.size 86 8 v ((marksRaw (a.take k) b).map pairC) ∧ Below w.heap.size w wr) (fun _ i _ => a.length - (intOf i).toNat)
      case atStart => exact ⟨0, by omega, rfl, OwnR.nil _ _ _ _, hw12⟩
      case round =>
        obtain ⟨k, hk, rfl, hown, hbr⟩ := hrel
        by_cases hlt : k < a.length
        · obtain ⟨bl, o, rfl, hck⟩ := HA.out k hlt
          have HS := hide (marksRaw_succ a b k hlt)
          have hml := marksRaw_len b (a.take k)
          rw [List.length_take, Nat.min_eq_left hk] at hml
          have hml2 : k * b.length ≤ 12 * 12 := Nat.mul_le_mul (by omega) hlb
          generalize a.getD k dot0 = p at HS hck
          generalize marksRaw (a.take k) b = R at HS hown hml
          obtain ⟨pi, px, py, pt⟩ := p
          have e0 : wr.cell? ⟨bl, o + k * 4, none⟩ = some (iV pi) := keep hbr (hck 0 _ rfl)
          have e1 : wr.cell? ⟨bl, o + k * 4 + 1, none⟩ = some (iV px) := keep hbr (hck 1 _ rfl)
          have e2 : wr.cell? ⟨bl, o + k * 4 + 2, none⟩ = some (iV py) := keep hbr (hck 2 _ rfl)
          have e3 : wr.cell? ⟨bl, o + k * 4 + 3, none⟩ = some (iV pt) := keep hbr (hck 3 _ rfl)
          clear hck
          go_wp2_with fail
          generalize hXX : World.alloc wr _ = X
          have hbX : Below wr.heap.size wr X := by rw [← hXX]; exact bal wr _
          have bP : Blk X wr.heap.size [iV pi, iV px, iV py, iV pt] 53 := by rw [← hXX]; exact Blk.newA wr _ rfl
          have hownX := hown.later' hbX
          have hbrX := below2 hbr hbX
          have hPB : w.heap.size ≤ wr.heap.size := hbr.size
          generalize wr.heap.size = P at *
          clear hXX
          go_loopw [5, 26] (fun v i wq => ∃ (j : Nat), j ≤ b.length ∧ i = .int .i64 j ∧ OwnR wq w.heap.size 86 8 v ((R ++ rowOf ⟨pi, px, py, pt⟩ (b.take j)).map pairC) ∧ Blk wq P [iV pi, iV px, iV py, iV pt] 53 ∧ Below w.heap.size w wq) (fun _ i _ => b.length - (intOf i).toNat)
          case atStart => exact ⟨0, by omega, rfl, by simpa [rowOf] using hownX, bP, hbrX⟩
          case round =>
            obtain ⟨j, hj, rfl, hownq, bPq, hbq⟩ := hrel
            by_cases hlj : j < b.length
            · obtain ⟨bm, om, rfl, hcm⟩ := HB.out j hlj
              have HR := hide (rowOf_succ ⟨pi, px, py, pt⟩ b j hlj)
              have hrl := rowOf_len ⟨pi, px, py, pt⟩ (b.take j)
              rw [List.length_take, Nat.min_eq_left hj] at hrl
              have HLl : Hid ((R ++ rowOf ⟨pi, px, py, pt⟩ (b.take j)).length < 1000000) := hide (by rw [List.length_append]; omega)
              generalize b.getD j dot0 = q at HR hcm
              generalize rowOf ⟨pi, px, py, pt⟩ (b.take j) = R2 at HR hownq HLl
              obtain ⟨qi, qx, qy, qt⟩ := q
              clear e0 e1 e2 e3
              have e0 : wr.cell? ⟨bm, om + j * 4, none⟩ = some (iV qi) := keep hbq (hcm 0 _ rfl)
              have e1 : wr.cell? ⟨bm, om + j * 4 + 1, none⟩ = some (iV qx) := keep hbq (hcm 1 _ rfl)
              have e2 : wr.cell? ⟨bm, om + j * 4 + 2, none⟩ = some (iV qy) := keep hbq (hcm 2 _ rfl)
              have e3 : wr.cell? ⟨bm, om + j * 4 + 3, none⟩ = some (iV qt) := keep hbq (hcm 3 _ rfl)
              have p0 := bPq.cell 0 rfl
              have p1 := bPq.cell 1 rfl
              have p2 := bPq.cell 2 rfl
              have p3 := bPq.cell 3 rfl
              have HBq := hide hbq.size
              have lP := bPq.lt
              have hoq := hownq.later' (bal wr (.cells #[iV qi, iV qx, iV qy, iV qt] 53))
              have bPq2 := bPq.later (bal wr (.cells #[iV qi, iV qx, iV qy, iV qt] 53))
              have hbq2 := below2 hbq (bal wr (.cells #[iV qi, iV qx, iV qy, iV qt] 53))
              clear hcm
              by_cases h1 : pi = qi
              · have h3 : (pi == qi) = true := by simpa using h1
                by_cases h2 : pi ≤ 19
                · have HI : Hid (isMark ⟨pi, px, py, pt⟩ ⟨qi, qx, qy, qt⟩ = true) := hide (by simp [isMark, h1]; omega)
                  rw [HI.out, if_pos rfl] at HR
                  have h4 : decide (pi ≤ 19) = true := by simpa using h2
                  clear h1 h2 HI
                  go_wp2_with (at_builtin; refine app_recM kindPair infoPair rfl (by decide) Tryd.underlying75 (by decide) rfl _ _ rfl w.heap.size _ _ rfl hoq (⟨pi, px, py, pt⟩, ⟨qi, qx, qy, qt⟩) _ rfl (by simp) HLl.out (by simp; exact Nat.le_succ_of_le HBq.out) ?_; intro g cc w3 hown3 hE3 hz3)
                  go_roundw
                  case rel => exact ⟨j + 1, by omega, by go_num, by rw [HR.out, ← List.append_assoc]; rw [List.length_append] at hown3; exact hown3, hE3.blk bPq2 (by decide), hbq2.trans (hE3.below (by simp; exact Nat.le_succ_of_le HBq.out))⟩
                  case measure => simp [intOf]; omega
                · have HI : Hid (isMark ⟨pi, px, py, pt⟩ ⟨qi, qx, qy, qt⟩ = false) := hide (by simp [isMark, h1]; omega)
                  rw [HI.out] at HR
                  have h4 : decide (pi ≤ 19) = false := by simpa using h2
                  clear h1 h2 HI
                  go_wp2_with fail
                  go_roundw
                  case rel => exact ⟨j + 1, by omega, by go_num, by rw [HR.out]; simpa using hoq, bPq2, hbq2⟩
                  case measure => simp [intOf]; omega
              · have h3 : (pi == qi) = false := by simpa using h1
                have HI : Hid (isMark ⟨pi, px, py, pt⟩ ⟨qi, qx, qy, qt⟩ = false) := hide (by simp [isMark, h1])
                rw [HI.out] at HR
                clear h1 HI
                go_wp2_with fail
                go_roundw
                case rel => exact ⟨j + 1, by omega, by go_num, by rw [HR.out]; simpa using hoq, bPq2, hbq2⟩
                case measure => simp [intOf]; omega
            · obtain rfl : j = b.length := by omega
              rw [List.take_length] at hownq
              go_wp2_with fail
              go_roundw
              case rel => exact ⟨k + 1, by omega, by go_num, by rw [HS.out]; exact hownq, hbq⟩
              case measure => simp [intOf]; omega
        · obtain rfl : k = a.length := by omega
          rw [List.take_length] at hown
          go_wp2_with fail
          go_ret
          exact ⟨_, rfl, by rw [HM.out]; exact RecIn.of_own hown (fun _ => rfl) (Nat.le_refl _), hbr⟩
end Go.Proofs.YtoofkahklboojaaDoor
