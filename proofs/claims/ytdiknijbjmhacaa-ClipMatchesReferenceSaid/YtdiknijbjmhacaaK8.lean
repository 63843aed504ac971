/- PLAIN LAWS OF CLIPPING: rings again, moved, beyond a side. -/
import Derived.Test.YtdiknijbjmhacaaK7
set_option linter.unusedSimpArgs false
set_option linter.unusedVariables false
namespace Go.Proofs.Ytdiknijbjmhacaa.Cl

theorem strip_pre : ∀ (n : Nat) (l : List Pt), strip n l <+: l
  | 0, l => List.prefix_refl l
  | n + 1, l => by
    simp only [strip]
    split
    · exact (strip_pre n l.dropLast).trans (List.dropLast_prefix l)
    · exact List.prefix_refl l
theorem strip_ends : ∀ (n : Nat) (l : List Pt), l.length ≤ n → ¬ (1 < (strip n l).length ∧ (strip n l).head? = (strip n l).getLast?)
  | 0, l, h => by
    have : l = [] := List.eq_nil_of_length_eq_zero (by omega)
    subst this; simp [strip]
  | n + 1, l, h => by
    simp only [strip]
    by_cases hc : 1 < l.length ∧ l.head? = l.getLast?
    · rw [if_pos hc]; exact strip_ends n l.dropLast (by simp; omega)
    · rw [if_neg hc]; exact hc
theorem Dif.pre : ∀ {m l : List Pt}, m <+: l → Dif l → Dif m
  | [], _, _, _ => trivial
  | [_], _, _, _ => trivial
  | x :: y :: m, l, h, hl => by
    obtain ⟨t, rfl⟩ := h
    obtain ⟨h1, h2⟩ := hl
    exact ⟨h1, Dif.pre (m := y :: m) ⟨t, rfl⟩ h2⟩
/-- a ring of three points or more, without equal neighbours -/
def GoodR (b : Bx) (l : List Pt) : Prop := 3 ≤ l.length ∧ (∀ p ∈ l, inB p b = true) ∧ Dif l ∧ l.head? ≠ l.getLast?
theorem around_good {b : Bx} {l : List Pt} (h : ∀ p ∈ l, inB p b = true) : aroundF l = [] ∨ GoodR b (aroundF l) := by
  unfold aroundF
  simp only
  have hp := strip_pre l.length (cmpF l)
  by_cases hc : (strip l.length (cmpF l)).length < 3
  · rw [if_pos hc]; exact .inl rfl
  · rw [if_neg hc]
    have hlen : (cmpF l).length ≤ l.length := by
      have : ∀ (r : List Pt) (x : Pt), (cmpT x r).length ≤ r.length := by
        intro r
        induction r with
        | nil => intro x; simp [cmpT]
        | cons y r ih =>
          intro x
          simp only [cmpT]
          split
          · have := ih x; simp; omega
          · have := ih y; simp; omega
      cases l with
      | nil => simp [cmpF]
      | cons x r => have := this r x; simp [cmpF]; omega
    refine .inr ⟨by omega, fun p hpm => h p (cmpF_mem (hp.subset hpm)), Dif.pre hp (cmpF_dif l), fun e => ?_⟩
    exact strip_ends l.length (cmpF l) hlen ⟨by omega, e⟩
theorem ringF_good (l : List Pt) (b : Bx) : ringF l b = [] ∨ GoodR b (ringF l b) := around_good (steps_in l b)
theorem around_self {l : List Pt} (h1 : 3 ≤ l.length) (h2 : Dif l) (h3 : l.head? ≠ l.getLast?) : aroundF l = l := by
  unfold aroundF
  rw [cmpF_self h2]
  have : strip l.length l = l := by
    cases hl : l.length with
    | zero => rfl
    | succ n => simp only [strip]; rw [if_neg (fun h => h3 h.2)]
  simp only
  rw [this, if_neg (by omega)]
/-- the ring of a ring is the same -/
theorem ringF_again (l : List Pt) (b : Bx) : ringF (ringF l b) b = ringF l b := by
  rcases ringF_good l b with h | ⟨h1, h2, h3, h4⟩
  · rw [h]; rfl
  · rw [ringF_inside h2, around_self h1 h3 h4]

/-- beyond one side: none -/
theorem ringF_beyond {l : List Pt} {b : Bx} {k : Nat} (hx : b.x0 ≤ b.x1) (hy : b.y0 ≤ b.y1) (h : ∀ p ∈ l, out4 p b k) : ringF l b = [] := by
  have e : ∀ j, ringStep b j ([] : List Pt) = [] := fun _ => rfl
  unfold ringF
  match k with
  | 0 =>
    rw [ringStep_no (k := 0) (fun x hx => by have := h x hx; simp [out4] at this; simp [kept]; omega)]
    rfl
  | 1 =>
    rw [ringStep_id (k := 0) (fun x hx => by have := h x hx; simp [out4] at this; simp [kept]; omega)]
    rw [ringStep_no (k := 1) (fun x hx => by have := h x hx; simp [out4] at this; simp [kept]; omega)]
    rfl
  | 2 =>
    have q0 : ∀ x ∈ l, x.2 ≤ b.y0 - 1 := fun x hx => by have := h x hx; simp [out4] at this; omega
    have bt : ∀ j, Btw (fun p => p.2 ≤ b.y0 - 1) b j := fun j => btw_of (b.y0 - 1) (.inr (.inr (.inr fun p => Iff.rfl)))
    have q1 := ringStep_all (bt 0) q0
    have q2 := ringStep_all (bt 1) q1
    rw [ringStep_no (k := 2) (fun x hx => by have := q2 x hx; simp [kept]; omega)]
    rfl
  | k + 3 =>
    have q0 : ∀ x ∈ l, b.y1 + 1 ≤ x.2 := fun x hx => by have := h x hx; simp [out4] at this; omega
    have bt : ∀ j, Btw (fun p => b.y1 + 1 ≤ p.2) b j := fun j => btw_of (b.y1 + 1) (.inr (.inr (.inl fun p => Iff.rfl)))
    have q1 := ringStep_all (bt 0) q0
    have q2 := ringStep_all (bt 1) q1
    rw [ringStep_id (k := 2) (fun x hx => by have := q2 x hx; simp [kept]; omega)]
    rw [ringStep_no (k := 3) (fun x hx => by have := q2 x hx; simp [kept]; omega)]
    rfl

/-- moved -/
theorem kept_mv (b : Bx) (k : Nat) (m p : Pt) : kept (mvB m b) k (mvP m p) = kept b k p := by
  unfold kept mvB mvP
  split <;> simp only [decide_eq_decide] <;> omega
theorem acr_mv (b : Bx) (k : Nat) (m p q : Pt) : acr (mvB m b) k (mvP m p) (mvP m q) = mvP m (acr b k p q) := by
  have e : ∀ x y z : Int, x + z - (y + z) = x - y := by intros; omega
  unfold acr mvB mvP acrX acrY
  split <;> simp only [e] <;> (apply Prod.ext <;> simp only <;> omega)
theorem stepP_mv (b : Bx) (k : Nat) (m p q : Pt) : stepP (mvB m b) k (mvP m p) (mvP m q) = (stepP b k p q).map (mvP m) := by
  unfold stepP
  rw [kept_mv, kept_mv, acr_mv, List.map_append]
  congr 1
  · split <;> rfl
  · split <;> rfl
theorem ringGo_mv (b : Bx) (k : Nat) (m : Pt) : ∀ (l : List Pt) (p : Pt), ringGo (mvB m b) k (mvP m p) (l.map (mvP m)) = (ringGo b k p l).map (mvP m) := by
  intro l
  induction l with
  | nil => intro p; rfl
  | cons q r ih => intro p; simp only [List.map_cons, ringGo]; rw [stepP_mv, ih, List.map_append]
theorem ringStep_mv (b : Bx) (k : Nat) (m : Pt) (l : List Pt) : ringStep (mvB m b) k (l.map (mvP m)) = (ringStep b k l).map (mvP m) := by
  unfold ringStep
  rw [List.getLast?_map]
  cases l.getLast? with
  | none => rfl
  | some z => exact ringGo_mv b k m l z
theorem strip_mv (m : Pt) : ∀ (n : Nat) (l : List Pt), strip n (l.map (mvP m)) = (strip n l).map (mvP m)
  | 0, l => rfl
  | n + 1, l => by
    simp only [strip, List.length_map, List.head?_map, List.getLast?_map]
    have e : (Option.map (mvP m) l.head? = Option.map (mvP m) l.getLast?) ↔ l.head? = l.getLast? := by
      cases l.head? <;> cases l.getLast? <;> simp [mvP_inj]
    by_cases h : 1 < l.length ∧ l.head? = l.getLast?
    · rw [if_pos h, if_pos ⟨h.1, e.2 h.2⟩, ← List.map_dropLast, strip_mv m n]
    · rw [if_neg h, if_neg (fun h2 => h ⟨h2.1, e.1 h2.2⟩)]
theorem aroundF_mv (m : Pt) (l : List Pt) : aroundF (l.map (mvP m)) = (aroundF l).map (mvP m) := by
  unfold aroundF
  rw [cmpF_mv, List.length_map, strip_mv]
  simp only [List.length_map]
  split <;> rfl
theorem ringF_mv (m : Pt) (l : List Pt) (b : Bx) : ringF (l.map (mvP m)) (mvB m b) = (ringF l b).map (mvP m) := by
  unfold ringF
  rw [ringStep_mv, ringStep_mv, ringStep_mv, ringStep_mv, aroundF_mv]
end Go.Proofs.Ytdiknijbjmhacaa.Cl
