/- WORDS: a seal among the arguments; what a seal that is accepted is like. -/
import Derived.Test.YthceonkdmcidcaaDoorUD
set_option linter.unusedSimpArgs false
set_option linter.unusedVariables false
namespace Go.Proofs.YthceonkdmcidcaaDoor
open Go.RowKit

/-- a seal that came in lies in a block of its own; what is kept by all that comes behind -/
structure SealIn (w W0 : World) (B : Nat) (idx : Int) (A1 A2 : Option Addr) (n1 c1 n2 c2 : Nat) (S P : List (List UInt8)) : Prop where
  tab : ∀ u, Below (B + 1) W0 u → Tab u
  r1 : ∀ u, Below (B + 1) W0 u → Rd u A1 (sv S)
  r2 : ∀ u, Below (B + 1) W0 u → Rd u A2 (sv P)
  bel : ∀ u, Below (B + 1) W0 u → Below w.heap.size w u
  blk : ∀ u, Below (B + 1) W0 u → u.heap[B]? = some (.cells #[.int .i64 idx, .slice A1 n1 c1, .slice A2 n2 c2] 24 (0, 0))
  sz : ∀ u, Below (B + 1) W0 u → B + 1 ≤ u.heap.size
  next : ∀ u v, Below (B + 1) W0 u → Below u.heap.size u v → Below (B + 1) W0 v
theorem sealIn_mk {w W0 : World} {B : Nat} {idx : Int} {A1 A2 : Option Addr} {n1 c1 n2 c2 : Nat} {S P : List (List UInt8)} (hB : w.heap.size = B) (hW : W0 = w.alloc (.cells #[.int .i64 idx, .slice A1 n1 c1, .slice A2 n2 c2] 24)) (ht : Tab w) (r1 : Rd w A1 (sv S)) (r2 : Rd w A2 (sv P)) :
    SealIn w W0 B idx A1 A2 n1 c1 n2 c2 S P := by
  subst hB hW
  have b0 : Below w.heap.size w (w.alloc (.cells #[.int .i64 idx, .slice A1 n1 c1, .slice A2 n2 c2] 24)) := (Below.refl _ _).alloc (Nat.le_refl _) _
  have k : ∀ u, Below (w.heap.size + 1) (w.alloc (.cells #[.int .i64 idx, .slice A1 n1 c1, .slice A2 n2 c2] 24)) u → Below w.heap.size w u := fun u h => b0.trans (h.mono (Nat.le_succ _))
  have z : ∀ u, Below (w.heap.size + 1) (w.alloc (.cells #[.int .i64 idx, .slice A1 n1 c1, .slice A2 n2 c2] 24)) u → w.heap.size + 1 ≤ u.heap.size := fun u h => by have := h.size; simpa using this
  exact ⟨fun u h => ht.keep (k u h), fun u h => r1.below (k u h), fun u h => r2.below (k u h), k, fun u h => (h.block _ (Nat.lt_succ_self _)).trans (heap_alloc_new w _), z, fun u v h g => h.trans (g.mono (z u h))⟩
theorem climb_isD : ∀ (p : List (List UInt8)) (i : Nat) (a : List UInt8), Dg.isD a = true → Dg.isD (Sl.climb p i a) = true
  | [], _, _, h => h
  | _ :: p, i, _, _ => climb_isD p (i / 2) _ (Dg.sumL_isD _)
theorem even_all {S : List (List UInt8)} (h : oddL S = false) : ∀ t ∈ S, Dg.isD t = true := by
  intro t ht
  unfold oddL at h
  rw [List.any_eq_false] at h
  simpa using h t ht
theorem ver_facts {pub m : List UInt8} {idx : Int} {S P : List (List UInt8)} (h : verB pub m idx S P = true) :
    S.length = 18 ∧ P.length ≤ 8 ∧ (∀ t ∈ S, Dg.isD t = true) ∧ (∀ t ∈ P, Dg.isD t = true) ∧ 0 ≤ idx ∧ idx < ((2 ^ P.length : Nat) : Int) ∧ Dg.isD pub = true ∧ Sl.verF m idx.toNat S P = pub := by
  unfold verB preB at h
  simp only [Bool.and_eq_true, decide_eq_true_eq, Bool.not_eq_true'] at h
  obtain ⟨⟨⟨⟨⟨⟨h1, h2⟩, h3⟩, h4⟩, h5⟩, h6⟩, h7⟩ := h
  refine ⟨h1, h2, even_all h3, even_all h4, h5, h6, ?_, h7⟩
  rw [← h7]
  exact climb_isD _ _ _ (Dg.sumL_isD _)
theorem ver_idx {pub m : List UInt8} {idx : Int} {S P : List (List UInt8)} (h : idx < 0 ∨ ((2 ^ P.length : Nat) : Int) ≤ idx) : verB pub m idx S P = false := ver_false (by
  unfold preB
  rcases h with h | h
  · rw [show decide (0 ≤ idx) = false from decide_eq_false (by omega)]; simp
  · rw [show decide (idx < ((2 ^ P.length : Nat) : Int)) = false from decide_eq_false (by omega)]; simp)
theorem len_100 {S : List (List UInt8)} (h : ∀ t ∈ S, t.length ≤ 100) : ∀ t ∈ S, t.length ≤ 300 := fun t ht => Nat.le_trans (h t ht) (by decide)
end Go.Proofs.YthceonkdmcidcaaDoor
