/- PLAIN LAWS OF CLIPPING: rational numbers, pieces. No program is spoken of here. -/
import Derived.Below
set_option linter.unusedSimpArgs false
set_option linter.unusedVariables false
namespace Go.Proofs.Ytdiknijbjmhacaa.Cl

abbrev Pt := Int × Int
structure Bx where
  x0 : Int
  y0 : Int
  x1 : Int
  y1 : Int
structure Rt where
  n : Int
  d : Int
def rless (r s : Rt) : Bool := decide (r.n * s.d < s.n * r.d)
def rof (a b : Int) : Rt := if b < 0 then ⟨-a, -b⟩ else ⟨a, b⟩
def rround (r : Rt) (n : Int) : Int := (2 * r.n * n + r.d) / (2 * r.d)
def nearB (x y : Int) : Bool := decide (-2097152 ≤ x) && decide (x ≤ 2097152) && decide (-2097152 ≤ y) && decide (y ≤ 2097152)
def inB (p : Pt) (b : Bx) : Bool := decide (b.x0 ≤ p.1) && decide (p.1 ≤ b.x1) && decide (b.y0 ≤ p.2) && decide (p.2 ≤ b.y1)
def boxB (b : Bx) : Bool := nearB b.x0 b.y0 && nearB b.x1 b.y1 && decide (b.x0 ≤ b.x1) && decide (b.y0 ≤ b.y1)
def properB (l : List Pt) (b : Bx) : Bool := boxB b && l.all fun p => nearB p.1 p.2

structure St where
  low : Rt
  high : Rt
  ok : Bool
def loR (f d lo hi : Int) : Rt := if d < 0 then ⟨f - hi, -d⟩ else ⟨lo - f, d⟩
def hiR (f d lo hi : Int) : Rt := if d < 0 then ⟨f - lo, -d⟩ else ⟨hi - f, d⟩
/-- one coordinate's limits -/
def bnd (f d lo hi : Int) (s : St) : St :=
  if d = 0 then ⟨s.low, s.high, s.ok && decide (lo ≤ f) && decide (f ≤ hi)⟩
  else ⟨if rless s.low (loR f d lo hi) then loR f d lo hi else s.low, if rless (hiR f d lo hi) s.high then hiR f d lo hi else s.high, s.ok⟩
def st0 : St := ⟨⟨0, 1⟩, ⟨1, 1⟩, true⟩
def st1 (p q : Pt) (b : Bx) : St := bnd p.1 (q.1 - p.1) b.x0 b.x1 st0
def st2 (p q : Pt) (b : Bx) : St := bnd p.2 (q.2 - p.2) b.y0 b.y1 (st1 p q b)
def atP (p q : Pt) (r : Rt) : Pt := (p.1 + rround r (q.1 - p.1), p.2 + rround r (q.2 - p.2))
def pcOk (p q : Pt) (b : Bx) : Bool := (st2 p q b).ok && !rless (st2 p q b).high (st2 p q b).low
def pcA (p q : Pt) (b : Bx) : Pt := atP p q (st2 p q b).low
def pcB (p q : Pt) (b : Bx) : Pt := atP p q (st2 p q b).high

/-- what is small, and has a denominator above 0 -/
def Sm (r : Rt) : Prop := -4194304 ≤ r.n ∧ r.n ≤ 4194304 ∧ 1 ≤ r.d ∧ r.d ≤ 4194304
structure SmS (s : St) : Prop where
  low : Sm s.low
  high : Sm s.high
theorem sm0 : SmS st0 := ⟨⟨by decide, by decide, by decide, by decide⟩, ⟨by decide, by decide, by decide, by decide⟩⟩
theorem loR_sm {f d lo hi : Int} (hf : -2097152 ≤ f ∧ f ≤ 2097152) (hl : -2097152 ≤ lo ∧ lo ≤ 2097152) (hh : -2097152 ≤ hi ∧ hi ≤ 2097152) (hd : -4194304 ≤ d ∧ d ≤ 4194304) (h0 : d ≠ 0) : Sm (loR f d lo hi) ∧ Sm (hiR f d lo hi) := by
  unfold loR hiR Sm
  split <;> simp only <;> omega
theorem bnd_sm {f d lo hi : Int} {s : St} (hs : SmS s) (hf : -2097152 ≤ f ∧ f ≤ 2097152) (hl : -2097152 ≤ lo ∧ lo ≤ 2097152) (hh : -2097152 ≤ hi ∧ hi ≤ 2097152) (hd : -4194304 ≤ d ∧ d ≤ 4194304) : SmS (bnd f d lo hi s) := by
  unfold bnd
  split
  · exact ⟨hs.low, hs.high⟩
  · rename_i h0
    obtain ⟨h1, h2⟩ := loR_sm hf hl hh hd h0
    constructor
    · simp only; split
      · exact h1
      · exact hs.low
    · simp only; split
      · exact h2
      · exact hs.high
theorem near_iff {x y : Int} : nearB x y = true ↔ (-2097152 ≤ x ∧ x ≤ 2097152) ∧ (-2097152 ≤ y ∧ y ≤ 2097152) := by
  unfold nearB; simp; omega
theorem box_iff {b : Bx} : boxB b = true ↔ ((-2097152 ≤ b.x0 ∧ b.x0 ≤ 2097152) ∧ (-2097152 ≤ b.y0 ∧ b.y0 ≤ 2097152)) ∧ ((-2097152 ≤ b.x1 ∧ b.x1 ≤ 2097152) ∧ (-2097152 ≤ b.y1 ∧ b.y1 ≤ 2097152)) ∧ b.x0 ≤ b.x1 ∧ b.y0 ≤ b.y1 := by
  unfold boxB; simp [near_iff]; omega
theorem st1_sm {p q : Pt} {b : Bx} (hp : nearB p.1 p.2 = true) (hq : nearB q.1 q.2 = true) (hb : boxB b = true) : SmS (st1 p q b) := by
  rw [near_iff] at hp hq; rw [box_iff] at hb
  exact bnd_sm sm0 hp.1 hb.1.1 hb.2.1.1 (by omega)
theorem st2_sm {p q : Pt} {b : Bx} (hp : nearB p.1 p.2 = true) (hq : nearB q.1 q.2 = true) (hb : boxB b = true) : SmS (st2 p q b) := by
  have h1 := st1_sm hp hq hb
  rw [near_iff] at hp hq; rw [box_iff] at hb
  exact bnd_sm h1 hp.2 hb.1.2 hb.2.1.2 (by omega)
end Go.Proofs.Ytdiknijbjmhacaa.Cl
