/- PLAIN LAWS OF CLIPPING: the reference's pieces; rings. -/
import Derived.Test.YtdiknijbjmhacaaK5
set_option linter.unusedSimpArgs false
set_option linter.unusedVariables false
namespace Go.Proofs.Ytdiknijbjmhacaa.Cl

/-- the reference's answer after one coordinate -/
def rok (f d lo hi : Int) (s : St) : Bool := if d = 0 then decide (lo ≤ f) && decide (f ≤ hi) else !rless s.high s.low
def refOk (p q : Pt) (b : Bx) : Bool := rok p.1 (q.1 - p.1) b.x0 b.x1 (st1 p q b) && rok p.2 (q.2 - p.2) b.y0 b.y1 (st2 p q b)
theorem bnd_ok (f d lo hi : Int) (s : St) : (bnd f d lo hi s).ok = if d = 0 then s.ok && decide (lo ≤ f) && decide (f ≤ hi) else s.ok := by
  unfold bnd; split <;> rfl
theorem bnd_zero (f lo hi : Int) (s : St) : (bnd f 0 lo hi s).low = s.low ∧ (bnd f 0 lo hi s).high = s.high := by
  unfold bnd; rw [if_pos rfl]; exact ⟨rfl, rfl⟩
theorem ref_ok (p q : Pt) (b : Bx) : refOk p q b = pcOk p q b := by
  obtain ⟨P1, _, _, _, _⟩ := bnd_spec (f := p.1) (d := q.1 - p.1) (lo := b.x0) (hi := b.x1) pos0
  obtain ⟨P2, l2, h2, _, _⟩ := bnd_spec (f := p.2) (d := q.2 - p.2) (lo := b.y0) (hi := b.y1) P1
  have e1 := bnd_ok p.1 (q.1 - p.1) b.x0 b.x1 st0
  have e2 := bnd_ok p.2 (q.2 - p.2) b.y0 b.y1 (st1 p q b)
  change Pos (st1 p q b) at P1
  change Pos (st2 p q b) at P2
  change rle (st1 p q b).low (st2 p q b).low at l2
  change rle (st2 p q b).high (st1 p q b).high at h2
  change (st1 p q b).ok = _ at e1
  change (st2 p q b).ok = _ at e2
  unfold refOk pcOk rok
  by_cases hx : q.1 - p.1 = 0
  · rw [if_pos hx] at e1 ⊢
    have o1 : (st1 p q b).ok = (decide (b.x0 ≤ p.1) && decide (p.1 ≤ b.x1)) := by rw [e1]; rfl
    by_cases hy : q.2 - p.2 = 0
    · rw [if_pos hy] at e2 ⊢
      have z1 := bnd_zero p.1 b.x0 b.x1 st0
      have z2 := bnd_zero p.2 b.y0 b.y1 (st1 p q b)
      have s2l : (st2 p q b).low = ⟨0, 1⟩ := by
        show (bnd p.2 (q.2 - p.2) b.y0 b.y1 (st1 p q b)).low = _
        rw [hy, z2.1]
        show (bnd p.1 (q.1 - p.1) b.x0 b.x1 st0).low = _
        rw [hx, z1.1]; rfl
      have s2h : (st2 p q b).high = ⟨1, 1⟩ := by
        show (bnd p.2 (q.2 - p.2) b.y0 b.y1 (st1 p q b)).high = _
        rw [hy, z2.2]
        show (bnd p.1 (q.1 - p.1) b.x0 b.x1 st0).high = _
        rw [hx, z1.2]; rfl
      have : rless (st2 p q b).high (st2 p q b).low = false := by rw [s2l, s2h]; decide
      rw [this, e2, o1]
      simp [Bool.and_assoc]
    · rw [if_neg hy] at e2 ⊢
      rw [e2, o1]
  · rw [if_neg hx] at e1 ⊢
    have o1 : (st1 p q b).ok = true := by rw [e1]; rfl
    by_cases hy : q.2 - p.2 = 0
    · rw [if_pos hy] at e2 ⊢
      have z2 := bnd_zero p.2 b.y0 b.y1 (st1 p q b)
      have s2l : (st2 p q b).low = (st1 p q b).low := by
        show (bnd p.2 (q.2 - p.2) b.y0 b.y1 (st1 p q b)).low = _
        rw [hy, z2.1]
      have s2h : (st2 p q b).high = (st1 p q b).high := by
        show (bnd p.2 (q.2 - p.2) b.y0 b.y1 (st1 p q b)).high = _
        rw [hy, z2.2]
      rw [s2l, s2h, e2, o1, Bool.true_and, Bool.and_comm]
    · rw [if_neg hy] at e2 ⊢
      rw [e2, o1, Bool.true_and]
      cases h : rless (st2 p q b).high (st2 p q b).low with
      | true => simp
      | false =>
        have h3 := rless_f.1 h
        have h4 : rle (st1 p q b).low (st1 p q b).high := rle_trans P1.low P2.low P1.high l2 (rle_trans P2.low P2.high P1.high h3 h2)
        rw [rless_f.2 h4]; rfl

/-! ### rings -/
def kept (b : Bx) (k : Nat) (p : Pt) : Bool := match k with
  | 0 => decide (b.x0 ≤ p.1)
  | 1 => decide (p.1 ≤ b.x1)
  | 2 => decide (b.y0 ≤ p.2)
  | _ => decide (p.2 ≤ b.y1)
/-- the point at which a cut is -/
def acrX (x : Int) (p q : Pt) : Pt := (x, p.2 + rround (rof (x - p.1) (q.1 - p.1)) (q.2 - p.2))
def acrY (y : Int) (p q : Pt) : Pt := (p.1 + rround (rof (y - p.2) (q.2 - p.2)) (q.1 - p.1), y)
def acr (b : Bx) (k : Nat) (p q : Pt) : Pt := match k with
  | 0 => acrX b.x0 p q
  | 1 => acrX b.x1 p q
  | 2 => acrY b.y0 p q
  | _ => acrY b.y1 p q
def stepP (b : Bx) (k : Nat) (p q : Pt) : List Pt := (if kept b k p ≠ kept b k q then [acr b k p q] else []) ++ if kept b k q then [q] else []
def ringGo (b : Bx) (k : Nat) : Pt → List Pt → List Pt
  | _, [] => []
  | p, q :: r => stepP b k p q ++ ringGo b k q r
def ringStep (b : Bx) (k : Nat) (l : List Pt) : List Pt := match l.getLast? with
  | none => []
  | some z => ringGo b k z l
/-- without points at the end that are equal to the first one -/
def strip : Nat → List Pt → List Pt
  | 0, l => l
  | n + 1, l => if 1 < l.length ∧ l.head? = l.getLast? then strip n l.dropLast else l
def aroundF (l : List Pt) : List Pt := let c := strip l.length (cmpF l); if c.length < 3 then [] else c
def ringF (l : List Pt) (b : Bx) : List Pt := aroundF (ringStep b 3 (ringStep b 2 (ringStep b 1 (ringStep b 0 l))))

/-- a ratio of whole numbers rounds to what it says -/
theorem rof_pos {a c : Int} (h : c ≠ 0) : 0 < (rof a c).d := by unfold rof; split <;> simp only <;> omega
theorem rof_round {a c : Int} (h : c ≠ 0) : rround (rof a c) c = a := by
  unfold rround rof
  split
  · rename_i hc
    simp only
    have : 2 * -a * c + -c = a * (2 * -c) + -c := by
      have e : 2 * -a * c = a * (2 * -c) := by rw [Int.mul_neg, Int.neg_mul, Int.mul_neg, Int.mul_neg, ← Int.mul_assoc, Int.mul_comm a 2]
      omega
    rw [this, Int.add_comm, Int.add_mul_ediv_right _ _ (by omega)]
    have : -c / (2 * -c) = 0 := Int.ediv_eq_zero_of_lt (by omega) (by omega)
    omega
  · simp only
    have : 2 * a * c + c = a * (2 * c) + c := by
      have e : 2 * a * c = a * (2 * c) := by rw [← Int.mul_assoc, Int.mul_comm a 2]
      omega
    rw [this, Int.add_comm, Int.add_mul_ediv_right _ _ (by omega)]
    have : c / (2 * c) = 0 := Int.ediv_eq_zero_of_lt (by omega) (by omega)
    omega
theorem rof_neg {a c : Int} (h : c ≠ 0) : rof (-a) (-c) = rof a c := by
  unfold rof
  by_cases hc : c < 0
  · rw [if_neg (show ¬ -c < 0 by omega), if_pos hc]
  · rw [if_pos (show -c < 0 by omega), if_neg hc]; simp
/-- what is between two numbers stays between them -/
theorem rround_btw {a c d : Int} (h : c ≠ 0) (h1 : 0 ≤ a ∧ a ≤ c ∨ c ≤ a ∧ a ≤ 0) : (0 ≤ d → 0 ≤ rround (rof a c) d ∧ rround (rof a c) d ≤ d) ∧ (d ≤ 0 → d ≤ rround (rof a c) d ∧ rround (rof a c) d ≤ 0) := by
  have hp := rof_pos (a := a) h
  have hn : 0 ≤ (rof a c).n ∧ (rof a c).n ≤ (rof a c).d := by
    unfold rof; split <;> simp only <;> omega
  generalize rof a c = rr at *
  obtain ⟨n, m⟩ := rr
  try simp only at hp
  try simp only at hn
  have i1 : ∀ lo hi : Int, inR 0 d lo hi ⟨n, m⟩ → lo ≤ rround ⟨n, m⟩ d ∧ rround ⟨n, m⟩ d ≤ hi := by
    intro lo hi hi'
    have := rround_in (r := ⟨n, m⟩) hp hi'
    omega
  constructor
  · intro hd
    apply i1
    unfold inR
    simp only [Int.zero_mul, Int.zero_add]
    have a1 := Int.mul_nonneg hn.1 hd
    have a2 := Int.mul_le_mul_of_nonneg_right hn.2 hd
    rw [Int.mul_comm m d] at a2
    exact ⟨a1, a2⟩
  · intro hd
    apply i1
    unfold inR
    simp only [Int.zero_mul, Int.zero_add]
    have a1 : n * d ≤ 0 := Int.mul_nonpos_of_nonneg_of_nonpos hn.1 hd
    have a2 : m * d ≤ n * d := Int.mul_le_mul_of_nonpos_right hn.2 hd
    rw [Int.mul_comm m d] at a2
    exact ⟨a2, a1⟩
end Go.Proofs.Ytdiknijbjmhacaa.Cl
