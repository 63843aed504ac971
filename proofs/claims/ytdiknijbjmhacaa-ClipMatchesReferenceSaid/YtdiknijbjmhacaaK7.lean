/- PLAIN LAWS OF CLIPPING: rings. -/
import Derived.Test.YtdiknijbjmhacaaK6
set_option linter.unusedSimpArgs false
set_option linter.unusedVariables false
namespace Go.Proofs.Ytdiknijbjmhacaa.Cl

/-- a property of points that lie between others -/
def Btw (Q : Pt → Prop) (b : Bx) (k : Nat) : Prop := ∀ p q : Pt, Q p → Q q → kept b k p ≠ kept b k q → Q (acr b k p q)
theorem stepP_all {Q : Pt → Prop} {b : Bx} {k : Nat} (hQ : Btw Q b k) {p q : Pt} (hp : Q p) (hq : Q q) : ∀ x ∈ stepP b k p q, Q x := by
  intro x hx
  unfold stepP at hx
  rcases List.mem_append.1 hx with hx | hx
  · split at hx
    · rename_i h; simp at hx; subst hx; exact hQ p q hp hq h
    · cases hx
  · split at hx
    · simp at hx; subst hx; exact hq
    · cases hx
theorem ringGo_all {Q : Pt → Prop} {b : Bx} {k : Nat} (hQ : Btw Q b k) : ∀ (l : List Pt) (p : Pt), Q p → (∀ x ∈ l, Q x) → ∀ x ∈ ringGo b k p l, Q x := by
  intro l
  induction l with
  | nil => intro p _ _ x hx; cases hx
  | cons q r ih =>
    intro p hp h x hx
    have hq := h q (by simp)
    rcases List.mem_append.1 hx with hx | hx
    · exact stepP_all hQ hp hq x hx
    · exact ih q hq (fun y hy => h y (List.mem_cons_of_mem _ hy)) x hx
theorem ringStep_all {Q : Pt → Prop} {b : Bx} {k : Nat} (hQ : Btw Q b k) {l : List Pt} (h : ∀ x ∈ l, Q x) : ∀ x ∈ ringStep b k l, Q x := by
  unfold ringStep
  cases e : l.getLast? with
  | none => intro x hx; cases hx
  | some z => exact ringGo_all hQ l z (h z (List.mem_of_getLast? e)) h
/-- behind a cut all points are kept -/
theorem acr_kept (b : Bx) (k : Nat) (p q : Pt) : kept b k (acr b k p q) = true := by
  unfold kept acr acrX acrY
  split <;> simp
theorem ringGo_kept (b : Bx) (k : Nat) : ∀ (l : List Pt) (p : Pt), ∀ x ∈ ringGo b k p l, kept b k x = true := by
  intro l
  induction l with
  | nil => intro p x hx; cases hx
  | cons q r ih =>
    intro p x hx
    rcases List.mem_append.1 hx with hx | hx
    · unfold stepP at hx
      rcases List.mem_append.1 hx with hx | hx
      · split at hx
        · simp at hx; subst hx; exact acr_kept b k p q
        · cases hx
      · split at hx
        · rename_i h; simp at hx; subst hx; exact h
        · cases hx
    · exact ih q x hx
theorem ringStep_kept (b : Bx) (k : Nat) (l : List Pt) : ∀ x ∈ ringStep b k l, kept b k x = true := by
  unfold ringStep
  cases l.getLast? with
  | none => intro x hx; cases hx
  | some z => exact ringGo_kept b k l z
/-- the cut's place between two points -/
theorem cut_btw {x p q : Int} (h : decide (x ≤ p) ≠ decide (x ≤ q)) : q - p ≠ 0 ∧ (0 ≤ x - p ∧ x - p ≤ q - p ∨ q - p ≤ x - p ∧ x - p ≤ 0) := by
  by_cases h1 : x ≤ p <;> by_cases h2 : x ≤ q <;> simp [h1, h2] at h <;> omega
theorem cut_btw' {x p q : Int} (h : decide (p ≤ x) ≠ decide (q ≤ x)) : q - p ≠ 0 ∧ (0 ≤ x - p ∧ x - p ≤ q - p ∨ q - p ≤ x - p ∧ x - p ≤ 0) := by
  by_cases h1 : p ≤ x <;> by_cases h2 : q ≤ x <;> simp [h1, h2] at h <;> omega
/-- the point at a cut lies between the two points, and on the cut -/
theorem acr_btw {b : Bx} {k : Nat} {p q : Pt} (h : kept b k p ≠ kept b k q) :
    ((p.1 ≤ (acr b k p q).1 ∧ (acr b k p q).1 ≤ q.1) ∨ (q.1 ≤ (acr b k p q).1 ∧ (acr b k p q).1 ≤ p.1)) ∧ ((p.2 ≤ (acr b k p q).2 ∧ (acr b k p q).2 ≤ q.2) ∨ (q.2 ≤ (acr b k p q).2 ∧ (acr b k p q).2 ≤ p.2)) := by
  have key : ∀ {a c d : Int}, c ≠ 0 → (0 ≤ a ∧ a ≤ c ∨ c ≤ a ∧ a ≤ 0) → (0 ≤ rround (rof a c) d ∧ rround (rof a c) d ≤ d) ∨ (d ≤ rround (rof a c) d ∧ rround (rof a c) d ≤ 0) := by
    intro a c d h1 h2
    have := rround_btw (d := d) h1 h2
    by_cases hd : 0 ≤ d
    · exact .inl (this.1 hd)
    · exact .inr (this.2 (by omega))
  unfold kept at h
  unfold acr acrX acrY
  split at h
  · obtain ⟨h1, h2⟩ := cut_btw h
    have := key (d := q.2 - p.2) h1 h2
    simp only; omega
  · obtain ⟨h1, h2⟩ := cut_btw' h
    have := key (d := q.2 - p.2) h1 h2
    simp only; omega
  · obtain ⟨h1, h2⟩ := cut_btw h
    have := key (d := q.1 - p.1) h1 h2
    simp only; omega
  · obtain ⟨h1, h2⟩ := cut_btw' h
    have := key (d := q.1 - p.1) h1 h2
    simp only; omega
/-- what holds of all points from one side of a coordinate on is kept by a cut -/
theorem btw_of {Q : Pt → Prop} {b : Bx} {k : Nat} (x : Int) (h : (∀ p, Q p ↔ x ≤ p.1) ∨ (∀ p, Q p ↔ p.1 ≤ x) ∨ (∀ p, Q p ↔ x ≤ p.2) ∨ (∀ p, Q p ↔ p.2 ≤ x)) : Btw Q b k := by
  intro p q hp hq hk
  have := acr_btw hk
  rcases h with h | h | h | h <;> rw [h] at hp hq ⊢ <;> omega

theorem kept_btw (b : Bx) (j k : Nat) : Btw (fun p => kept b j p = true) b k := by
  match j with
  | 0 => exact btw_of b.x0 (.inl fun p => by simp [kept])
  | 1 => exact btw_of b.x1 (.inr (.inl fun p => by simp [kept]))
  | 2 => exact btw_of b.y0 (.inr (.inr (.inl fun p => by simp [kept])))
  | j + 3 => exact btw_of b.y1 (.inr (.inr (.inr fun p => by simp [kept])))
theorem inB_kept {p : Pt} {b : Bx} : inB p b = true ↔ kept b 0 p = true ∧ kept b 1 p = true ∧ kept b 2 p = true ∧ kept b 3 p = true := by
  rw [inB_iff]; simp [kept]
theorem steps_in (l : List Pt) (b : Bx) : ∀ x ∈ ringStep b 3 (ringStep b 2 (ringStep b 1 (ringStep b 0 l))), inB x b = true := by
  have h0 := ringStep_kept b 0 l
  have h01 := ringStep_all (kept_btw b 0 1) h0
  have h1 := ringStep_kept b 1 (ringStep b 0 l)
  have h02 := ringStep_all (kept_btw b 0 2) h01
  have h12 := ringStep_all (kept_btw b 1 2) h1
  have h2 := ringStep_kept b 2 (ringStep b 1 (ringStep b 0 l))
  have h03 := ringStep_all (kept_btw b 0 3) h02
  have h13 := ringStep_all (kept_btw b 1 3) h12
  have h23 := ringStep_all (kept_btw b 2 3) h2
  have h3 := ringStep_kept b 3 (ringStep b 2 (ringStep b 1 (ringStep b 0 l)))
  intro x hx
  exact inB_kept.2 ⟨h03 x hx, h13 x hx, h23 x hx, h3 x hx⟩

/-- a cut that keeps all changes nothing -/
theorem ringGo_id {b : Bx} {k : Nat} : ∀ (l : List Pt) (p : Pt), kept b k p = true → (∀ x ∈ l, kept b k x = true) → ringGo b k p l = l := by
  intro l
  induction l with
  | nil => intro p _ _; rfl
  | cons q r ih =>
    intro p hp h
    have hq := h q (by simp)
    simp only [ringGo]
    rw [ih q hq (fun x hx => h x (List.mem_cons_of_mem _ hx))]
    unfold stepP
    rw [hp, hq]
    simp
theorem ringStep_id {b : Bx} {k : Nat} {l : List Pt} (h : ∀ x ∈ l, kept b k x = true) : ringStep b k l = l := by
  unfold ringStep
  cases e : l.getLast? with
  | none => simp at e; rw [e]
  | some z => exact ringGo_id l z (h z (List.mem_of_getLast? e)) h
theorem ringF_inside {l : List Pt} {b : Bx} (h : ∀ x ∈ l, inB x b = true) : ringF l b = aroundF l := by
  have k : ∀ x ∈ l, kept b 0 x = true ∧ kept b 1 x = true ∧ kept b 2 x = true ∧ kept b 3 x = true := fun x hx => inB_kept.1 (h x hx)
  unfold ringF
  rw [ringStep_id (k := 0) fun x hx => (k x hx).1, ringStep_id (k := 1) fun x hx => (k x hx).2.1, ringStep_id (k := 2) fun x hx => (k x hx).2.2.1, ringStep_id (k := 3) fun x hx => (k x hx).2.2.2]
/-- a cut that keeps none leaves none -/
theorem ringGo_no {b : Bx} {k : Nat} : ∀ (l : List Pt) (p : Pt), kept b k p = false → (∀ x ∈ l, kept b k x = false) → ringGo b k p l = [] := by
  intro l
  induction l with
  | nil => intro p _ _; rfl
  | cons q r ih =>
    intro p hp h
    have hq := h q (by simp)
    simp only [ringGo]
    rw [ih q hq (fun x hx => h x (List.mem_cons_of_mem _ hx))]
    unfold stepP
    rw [hp, hq]
    simp
theorem ringStep_no {b : Bx} {k : Nat} {l : List Pt} (h : ∀ x ∈ l, kept b k x = false) : ringStep b k l = [] := by
  unfold ringStep
  cases e : l.getLast? with
  | none => rfl
  | some z => exact ringGo_no l z (h z (List.mem_of_getLast? e)) h
theorem ringStep_nil (b : Bx) (k : Nat) : ringStep b k [] = [] := rfl
theorem aroundF_nil : aroundF [] = [] := rfl
end Go.Proofs.Ytdiknijbjmhacaa.Cl
