/- PLAIN LAWS: a list without equal neighbours, made in place. No program is spoken of here. -/
import Derived.Test.YtdiknijbjmhacaaK3
set_option linter.unusedSimpArgs false
set_option linter.unusedVariables false
namespace Go.Proofs.Ytdiknijbjmhacaa.Cl

theorem getLast_take {l : List Pt} {k : Nat} (hk : k < l.length) : (l.take (k + 1)).getLast? = some l[k] := by
  rw [List.take_succ_eq_append_getElem hk, List.getLast?_append]; rfl
theorem cmp_more {l : List Pt} {j : Nat} (h1 : 1 ≤ j) (hj : j < l.length) : cmpF (l.take (j + 1)) = if l[j] = l[j - 1] then cmpF (l.take j) else cmpF (l.take j) ++ [l[j]] := by
  obtain ⟨i, rfl⟩ : ∃ i, j = i + 1 := ⟨j - 1, by omega⟩
  rw [List.take_succ_eq_append_getElem hj, cmpF_snoc, getLast_take (by omega)]
  simp only [Nat.add_sub_cancel, Option.some.injEq]
  by_cases h : l[i + 1] = l[i]
  · rw [if_pos h, if_pos h.symm]
  · rw [if_neg h, if_neg (fun e => h e.symm)]
theorem cmp_len1 (l : List Pt) : (cmpF l).length ≤ l.length := by
  have : ∀ (r : List Pt) (x : Pt), (cmpT x r).length ≤ r.length := by
    intro r
    induction r with
    | nil => intro x; simp [cmpT]
    | cons y r ih =>
      intro x
      simp only [cmpT]
      split
      · have := ih x; simp; omega
      · have := ih y; simp; omega
  cases l with
  | nil => simp [cmpF]
  | cons x r => have := this r x; simp [cmpF]; omega

/-- the inner loop: j elements are seen, kk of them are kept and lie at the head -/
structure CI (l m : List Pt) (j kk : Nat) : Prop where
  len : m.length = l.length
  pre : m.take kk = cmpF (l.take j)
  cnt : kk = (cmpF (l.take j)).length
  lt : kk + 1 ≤ j
  high : ∀ i, j ≤ i + 1 → m[i]? = l[i]?
theorem CI.start {l : List Pt} {k : Nat} (h1 : 1 ≤ k) (hk : k < l.length) (ha : cmpF (l.take k) = l.take k) (he : l[k] = l[k - 1]) : CI l l (k + 1) k := by
  have e : cmpF (l.take (k + 1)) = l.take k := by rw [cmp_more h1 hk, if_pos he, ha]
  exact ⟨rfl, e.symm, by rw [e]; simp; omega, Nat.le_refl _, fun _ _ => rfl⟩
theorem CI.skip {l m : List Pt} {j kk : Nat} (h : CI l m j kk) (h1 : 1 ≤ j) (hj : j < l.length) (he : l[j] = l[j - 1]) : CI l m (j + 1) kk := by
  have e : cmpF (l.take (j + 1)) = cmpF (l.take j) := by rw [cmp_more h1 hj, if_pos he]
  exact ⟨h.len, by rw [e]; exact h.pre, by rw [e]; exact h.cnt, by have := h.lt; omega, fun i hi => h.high i (by omega)⟩
theorem CI.keep {l m : List Pt} {j kk : Nat} (h : CI l m j kk) (h1 : 1 ≤ j) (hj : j < l.length) (he : l[j] ≠ l[j - 1]) : CI l (m.set kk l[j]) (j + 1) (kk + 1) := by
  have e : cmpF (l.take (j + 1)) = cmpF (l.take j) ++ [l[j]] := by rw [cmp_more h1 hj, if_neg he]
  have hlt := h.lt; have hlen := h.len
  refine ⟨by simpa using h.len, ?_, by rw [e, List.length_append, ← h.cnt]; rfl, by omega, fun i hi => ?_⟩
  · rw [e, ← h.pre, List.take_succ_eq_append_getElem (by simp; omega), List.take_set_of_le (Nat.le_refl _)]
    simp
  · rw [List.getElem?_set_ne (by omega)]; exact h.high i (by omega)
theorem CI.done {l m : List Pt} {kk : Nat} (h : CI l m l.length kk) : m.take kk = cmpF l ∧ kk = (cmpF l).length := by
  have h1 := h.pre; have h2 := h.cnt
  rw [List.take_length] at h1 h2
  exact ⟨h1, h2⟩
theorem cmp_one {l : List Pt} : cmpF (l.take 1) = l.take 1 := by
  cases l with
  | nil => rfl
  | cons x r => rfl
theorem cmp_on {l : List Pt} {k : Nat} (h1 : 1 ≤ k) (hk : k < l.length) (ha : cmpF (l.take k) = l.take k) (he : l[k] ≠ l[k - 1]) : cmpF (l.take (k + 1)) = l.take (k + 1) := by
  rw [cmp_more h1 hk, if_neg he, ha, List.take_succ_eq_append_getElem hk]
theorem cmp_short {l : List Pt} (h : l.length < 2) : cmpF l = l := by
  match l, h with
  | [], _ => rfl
  | [_], _ => rfl
end Go.Proofs.Ytdiknijbjmhacaa.Cl
