/- PLAIN LAWS OF THE STATEMENT AtlasRefers. -/
import Derived.Test.YtlejeelmlclnkaaGreatDoorAS
set_option linter.unusedSimpArgs false
set_option linter.unusedVariables false
namespace Go.Proofs.YtlejeelmlclnkaaGreatDoor
open At

theorem refersL_app (a b : List Ob) (id : Tx) : refersL (a ++ b) id = refersL a id ++ refersL b id := by
  unfold refersL; rw [List.filter_append, List.map_append]
theorem refers_split {L : List Ob} {i : Nat} (hi : i < L.length) (id : Tx) : refersL L id = refersL (L.take i) id ++ ((if decide (id ∈ L[i].refs) then [L[i].id] else []) ++ refersL (L.drop (i + 1)) id) := by
  have h : L = L.take i ++ ([L[i]] ++ L.drop (i + 1)) := by
    rw [List.singleton_append, ← List.drop_eq_getElem_cons hi, List.take_append_drop]
  conv => lhs; rw [h]
  rw [refersL_app, refersL_app]
  congr 2
  unfold refersL
  cases hd : decide (id ∈ L[i].refs) <;> simp [hd] at * <;> simp [hd]
theorem refers_take {L : List Ob} {i : Nat} (hi : i < L.length) (id : Tx) : refersL (L.take (i + 1)) id = refersL (L.take i) id ++ (if decide (id ∈ L[i].refs) then [L[i].id] else []) := by
  rw [List.take_succ_eq_append_getElem hi, refersL_app]
  congr 1
  unfold refersL
  cases hd : decide (id ∈ L[i].refs) <;> simp [hd] at * <;> simp [hd]
/-- whether the next one of those that refer is this one -/
theorem refers_next {L : List Ob} (hs : Srt L) {i : Nat} (hi : i < L.length) (id : Tx) :
    (id ∈ L[i].refs → (refersL L id)[(refersL (L.take i) id).length]? = some L[i].id) ∧ (id ∉ L[i].refs → (refersL L id)[(refersL (L.take i) id).length]? ≠ some L[i].id) := by
  rw [refers_split hi id]
  constructor
  · intro h
    rw [List.getElem?_append_right (Nat.le_refl _), Nat.sub_self]
    simp [h]
  · intro h e
    rw [List.getElem?_append_right (Nat.le_refl _), Nat.sub_self] at e
    simp only [h, decide_false, Bool.false_eq_true, if_false, List.nil_append] at e
    have hm := List.mem_of_getElem? e
    unfold refersL at hm
    obtain ⟨o, ho, eo⟩ := List.mem_map.1 hm
    have ho := (List.mem_filter.1 ho).1
    have hlt : lt L[i].id o.id = true := by
      have h2 := List.pairwise_append.1 (show (L.take (i + 1) ++ L.drop (i + 1)).Pairwise _ from by rw [List.take_append_drop]; exact hs)
      refine h2.2.2 L[i] ?_ o ho
      rw [List.take_succ_eq_append_getElem hi]
      exact List.mem_append.2 (.inr (List.mem_singleton.2 rfl))
    exact lt_ne hlt eo.symm
theorem ptsF_spec {L : List Ob} : ∀ {rs : List Tx} {P : List Pt2}, ptsF L rs = some P → P.length = rs.length ∧ ∀ i (h : i < rs.length), ∃ z, At.look L rs[i] = some z ∧ z.kind = 1 ∧ P[i]? = some (z.x, z.y)
  | [], P, h => by
    have : P = [] := by simpa [ptsF] using h.symm
    subst this
    exact ⟨rfl, fun i hi => absurd hi (by simp)⟩
  | r :: rs, P, h => by
    rw [ptsF] at h
    cases k : At.look L r with
    | none => rw [k] at h; cases h
    | some z =>
      rw [k] at h
      dsimp only at h
      split at h
      · rename_i hz
        cases q : ptsF L rs with
        | none => rw [q] at h; cases h
        | some Q =>
          rw [q] at h
          have e : P = (z.x, z.y) :: Q := by simpa using h.symm
          subst e
          obtain ⟨h1, h2⟩ := ptsF_spec q
          refine ⟨by simp [h1], fun i hi => ?_⟩
          cases i with
          | zero => exact ⟨z, k, hz, rfl⟩
          | succ i => exact h2 i (by simpa using hi)
      · cases h
theorem points_none {L : List Ob} (hv : validM L = true) {id : Tx} (h : At.look L id = none) : pointsM L id = ([], 11) := by
  unfold pointsM; rw [hv, h]; rfl
theorem points_node {L : List Ob} (hv : validM L = true) {id : Tx} {z : Ob} (h : At.look L id = some z) (hk : z.kind = 1) : pointsM L id = ([(z.x, z.y)], 0) := by
  unfold pointsM; rw [hv, h]; simp [hk]
/-- the points of an object that is there: an error, or those of its nodes -/
theorem points_some {L : List Ob} (hv : validM L = true) {id : Tx} {z : Ob} (h : At.look L id = some z) (hk : z.kind ≠ 1) :
    (∃ k : Nat, (k = 13 ∨ k = 14) ∧ pointsM L id = ([], k)) ∨ ∃ P, pointsM L id = (P, 0) ∧ ptsF L z.refs = some P := by
  unfold pointsM
  rw [hv, h]
  dsimp only
  rw [if_pos rfl, if_neg hk]
  split
  · cases q : ptsF L z.refs with
    | none => exact .inl ⟨14, .inr rfl, rfl⟩
    | some P => exact .inr ⟨P, rfl, rfl⟩
  · exact .inl ⟨13, .inl rfl, rfl⟩
end Go.Proofs.YtlejeelmlclnkaaGreatDoor
