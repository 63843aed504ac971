/- PLAIN LAWS OF SEQUENCES: the reference's way round: place by place. -/
import Derived.Test.YtkklpmfjbkapiaaPure3
namespace Go.Proofs.Ytkklpmfjbkapiaa.Sq

/-- what lies before a place, and it -/
theorem filt_lt {i0 k0 : Nat} {P : List (Nat × Nat)} (h : Inc i0 k0 P) (i : Nat) : P.filter (fun p => decide (p.1 < i + 1)) = P.filter (fun p => decide (p.1 < i)) ++ (asg P i).toList.map (fun q => (i, q)) := by
  induction P generalizing i0 k0 with
  | nil => rfl
  | cons x P ih =>
    obtain ⟨p, q⟩ := x
    obtain ⟨h1, h2, h3⟩ := h
    have big : ∀ j, j ≤ p → P.filter (fun x => decide (x.1 < j + 1)) = [] := by
      intro j hj
      rw [List.filter_eq_nil_iff]
      intro x hx
      have := h3.mem hx
      simp; omega
    rcases Nat.lt_trichotomy p i with hlt | rfl | hgt
    · rw [List.filter_cons_of_pos (by simp; omega), List.filter_cons_of_pos (by simpa using hlt), ih h3]
      simp only [asg]
      rw [if_neg (by omega)]; rfl
    · rw [List.filter_cons_of_pos (by simp), List.filter_cons_of_neg (by simp), big p (Nat.le_refl _)]
      have : P.filter (fun x => decide (x.1 < p)) = [] := by
        rw [List.filter_eq_nil_iff]; intro x hx; have := h3.mem hx; simp; omega
      rw [this]; simp [asg]
    · rw [List.filter_cons_of_neg (by simp; omega), List.filter_cons_of_neg (by simp; omega), ih h3]
      simp only [asg]
      rw [if_neg (by omega)]

theorem filt_ge {i0 k0 : Nat} {P : List (Nat × Nat)} (h : Inc i0 k0 P) (i : Nat) : P.filter (fun p => decide (i ≤ p.1)) = (asg P i).toList.map (fun q => (i, q)) ++ P.filter (fun p => decide (i + 1 ≤ p.1)) := by
  induction P generalizing i0 k0 with
  | nil => rfl
  | cons x P ih =>
    obtain ⟨p, q⟩ := x
    obtain ⟨h1, h2, h3⟩ := h
    rcases Nat.lt_trichotomy p i with hlt | rfl | hgt
    · rw [List.filter_cons_of_neg (by simp; omega), List.filter_cons_of_neg (by simp; omega), ih h3]
      simp only [asg]
      rw [if_neg (by omega)]
    · rw [List.filter_cons_of_pos (by simp), List.filter_cons_of_neg (by simp)]
      have e1 : P.filter (fun x => decide (p ≤ x.1)) = P := by
        rw [List.filter_eq_self]; intro x hx; have := h3.mem hx; simp; omega
      have e2 : P.filter (fun x => decide (p + 1 ≤ x.1)) = P := by
        rw [List.filter_eq_self]; intro x hx; have := h3.mem hx; simp; omega
      rw [e1, e2]; simp [asg]
    · have e1 : ∀ j, j ≤ p + 1 → P.filter (fun x => decide (j ≤ x.1)) = P := by
        intro j hj
        rw [List.filter_eq_self]; intro x hx; have := h3.mem hx; simp; omega
      rw [List.filter_cons_of_pos (by simp; omega), List.filter_cons_of_pos (by simp; omega), e1 _ (by omega), e1 _ (by omega)]
      simp only [asg]
      rw [if_neg (by omega), asg_lt h3 (by omega)]; rfl

variable {α : Type} [DecidableEq α]
/-- the elements in common, as far as a place -/
def comTo (a b : List α) (i : Nat) : List α := ((mt a b 0 0).filter fun p => decide (p.1 < i)).filterMap fun p => a[p.1]?
theorem comTo_zero (a b : List α) : comTo a b 0 = [] := by
  unfold comTo
  rw [List.filter_eq_nil_iff.2 (by intro x _; simp)]; rfl
theorem comTo_some {a b : List α} {i q : Nat} (hi : i < a.length) (h : asg (mt a b 0 0) i = some q) : comTo a b (i + 1) = comTo a b i ++ [a[i]] := by
  unfold comTo
  rw [filt_lt (mt_inc a b 0 0) i, h, List.filterMap_append]
  simp [hi]
theorem comTo_none {a b : List α} {i : Nat} (h : asg (mt a b 0 0) i = none) : comTo a b (i + 1) = comTo a b i := by
  unfold comTo
  rw [filt_lt (mt_inc a b 0 0) i, h]; simp
theorem comTo_end (a b : List α) : comTo a b a.length = com a b := by
  rw [com_def]; unfold comTo
  rw [List.filter_eq_self.2]
  intro p hp
  simpa using (mt_in a b p hp).1
theorem comTo_len (a b : List α) : ∀ i, (comTo a b i).length ≤ i
  | 0 => by rw [comTo_zero]; simp
  | i + 1 => by
    have ih := comTo_len a b i
    cases h : asg (mt a b 0 0) i with
    | none => rw [comTo_none h]; omega
    | some q =>
      have hi := (mt_in a b _ (asg_mem h)).1
      rw [comTo_some hi h]; simp; omega

/-- the stable elements from a place on -/
def stFrom (b o t : List α) (i : Nat) : List (Nat × Nat × Nat) := stab ((mt b o 0 0).filter fun p => decide (i ≤ p.1)) (mt b t 0 0)
theorem stFrom_zero (b o t : List α) : stFrom b o t 0 = stabOf b o t := by
  unfold stFrom stabOf
  rw [List.filter_eq_self.2 (by intro x _; simp)]
theorem stFrom_end (b o t : List α) {i : Nat} (hi : b.length ≤ i) : stFrom b o t i = [] := by
  unfold stFrom
  rw [List.filter_eq_nil_iff.2]
  · rfl
  · intro p hp
    have := (mt_in b o p hp).1
    simp; omega
theorem stFrom_some {b o t : List α} {i p q : Nat} (h : asg (mt b o 0 0) i = some p) (h2 : asg (mt b t 0 0) i = some q) : stFrom b o t i = (i, p, q) :: stFrom b o t (i + 1) := by
  unfold stFrom
  rw [filt_ge (mt_inc b o 0 0) i, stab_append, h]
  simp only [Option.toList_some, List.map_cons, List.map_nil]
  rw [stab_cons, h2]; rfl
theorem stFrom_none {b o t : List α} {i : Nat} (h : asg (mt b o 0 0) i = none ∨ asg (mt b t 0 0) i = none) : stFrom b o t i = stFrom b o t (i + 1) := by
  unfold stFrom
  rw [filt_ge (mt_inc b o 0 0) i, stab_append]
  rcases h with h | h
  · rw [h]; rfl
  · cases h' : asg (mt b o 0 0) i with
    | none => rfl
    | some p =>
      simp only [Option.toList_some, List.map_cons, List.map_nil]
      rw [stab_cons, h]; rfl

/-- how far the reference's merging has come -/
def RC (b o t : List α) (x i j k : Nat) (out : List α) : Prop :=
  (x ≤ b.length ∧ mrg b o t = (mg b o t (stFrom b o t x) i j k).map (out ++ ·) ∧ Inc3 i j k (stFrom b o t x) ∧ i ≤ x ∧ j ≤ o.length ∧ k ≤ t.length ∧ out.length ≤ x * 5000) ∨ (x = b.length + 1 ∧ mrg b o t = some out)
theorem rc_start (b o t : List α) : RC b o t 0 0 0 0 [] :=
  .inl ⟨Nat.zero_le _, by rw [stFrom_zero]; simp [mrg], by rw [stFrom_zero]; exact stabOf_inc b o t, Nat.zero_le _, Nat.zero_le _, Nat.zero_le _, by simp⟩
theorem rc_skip {b o t : List α} {x i j k : Nat} {out : List α} (h : RC b o t x i j k out) (hx : x < b.length) (hn : asg (mt b o 0 0) x = none ∨ asg (mt b t 0 0) x = none) : RC b o t (x + 1) i j k out := by
  rcases h with ⟨h1, h2, h3, h4, h5, h6, h7⟩ | ⟨h1, _⟩
  · rw [stFrom_none hn] at h2 h3
    exact .inl ⟨hx, h2, h3, by omega, h5, h6, Nat.le_trans h7 (Nat.mul_le_mul_right _ (Nat.le_succ x))⟩
  · omega
theorem chunk_le {b o t c : List α} {n : Nat} (h : chunk b o t = some c) (ho : o.length ≤ n) (ht : t.length ≤ n) : c.length ≤ n := by
  rcases chunk_sub h with rfl | rfl <;> assumption
theorem rc_mid {b o t : List α} {x i j k p q : Nat} {out : List α} (h : RC b o t x i j k out) (hx : x < b.length) (hp : asg (mt b o 0 0) x = some p) (hq : asg (mt b t 0 0) x = some q) (ho : o.length ≤ 2000) (ht : t.length ≤ 2000) :
    i ≤ x ∧ j ≤ p ∧ k ≤ q ∧ p < o.length ∧ q < t.length ∧ out.length ≤ x * 5000 ∧
    (chunk ((b.take x).drop i) ((o.take p).drop j) ((t.take q).drop k) = none → mrg b o t = none) ∧
    (∀ c, chunk ((b.take x).drop i) ((o.take p).drop j) ((t.take q).drop k) = some c → c.length ≤ 2000 ∧ RC b o t (x + 1) (x + 1) (p + 1) (q + 1) (out ++ c ++ [b[x]])) := by
  have lp := (mt_in b o _ (asg_mem hp)).2
  have lq := (mt_in b t _ (asg_mem hq)).2
  simp only at lp lq
  rcases h with ⟨h1, h2, h3, h4, h5, h6, h7⟩ | ⟨h1, _⟩
  case inr => omega
  rw [stFrom_some hp hq] at h2 h3
  obtain ⟨i1, i2, i3, i4⟩ := h3
  simp only [mg] at h2
  refine ⟨i1, i2, i3, lp, lq, h7, fun h => ?_, fun c h => ?_⟩
  · rw [h2, h]; rfl
  · have hc := chunk_le (n := 2000) h (by simp; omega) (by simp; omega)
    rw [h] at h2
    refine ⟨hc, .inl ⟨hx, ?_, i4, Nat.le_refl _, lp, lq, by simp; omega⟩⟩
    rw [h2, List.getElem?_eq_getElem hx]
    simp only [Option.map_map, Option.toList_some]
    congr 1
    funext l
    simp [List.append_assoc]
theorem rc_last {b o t : List α} {i j k : Nat} {out : List α} (h : RC b o t b.length i j k out) (ho : o.length ≤ 2000) (ht : t.length ≤ 2000) :
    i ≤ b.length ∧ j ≤ o.length ∧ k ≤ t.length ∧ out.length ≤ b.length * 5000 ∧
    (chunk (b.drop i) (o.drop j) (t.drop k) = none → mrg b o t = none) ∧
    (∀ c, chunk (b.drop i) (o.drop j) (t.drop k) = some c → c.length ≤ 2000 ∧ ∀ i' j' k', RC b o t (b.length + 1) i' j' k' (out ++ c)) := by
  rcases h with ⟨h1, h2, h3, h4, h5, h6, h7⟩ | ⟨h1, _⟩
  case inr => omega
  rw [stFrom_end b o t (Nat.le_refl _)] at h2
  simp only [mg] at h2
  refine ⟨h4, h5, h6, h7, fun h => by rw [h2, h]; rfl, fun c h => ⟨chunk_le (n := 2000) h (by simp; omega) (by simp; omega), fun i' j' k' => .inr ⟨rfl, by rw [h2, h]; rfl⟩⟩⟩
theorem rc_end {b o t : List α} {x i j k : Nat} {out : List α} (h : RC b o t x i j k out) (hx : b.length < x) : mrg b o t = some out := by
  rcases h with ⟨h1, _⟩ | ⟨_, h2⟩
  · omega
  · exact h2

/-- the reference's word for the matching: an index for each element, or -1 -/
def idx (o : Option Nat) : Int := match o with | some q => (q : Int) | none => -1
def mtI (a b : List α) : List Int := (List.range a.length).map fun i => idx (asg (mt a b 0 0) i)
theorem mtI_len (a b : List α) : (mtI a b).length = a.length := by simp [mtI]
theorem mtI_at (a b : List α) {i : Nat} (h : i < (mtI a b).length) : (mtI a b)[i] = idx (asg (mt a b 0 0) i) := by simp [mtI]
/-- a step of the matching: what the place at hand is matched with -/
theorem asg_hit {a b : List α} {done : List (Nat × Nat)} {m n : Nat} {R : List (Nat × Nat)} (h : mt a b 0 0 = done ++ (m, n) :: R) : asg (mt a b 0 0) m = some n :=
  asg_of_mem (mt_inc a b 0 0) (by rw [h]; simp)
theorem asg_miss {a b : List α} {done : List (Nat × Nat)} {m n : Nat} {R : List (Nat × Nat)} (h : mt a b 0 0 = done ++ R) (hd : ∀ p ∈ done, p.1 < m) (hR : Inc (m + 1) n R) : asg (mt a b 0 0) m = none := by
  cases h' : asg (mt a b 0 0) m with
  | none => rfl
  | some q =>
    have := asg_mem h'
    rw [h, List.mem_append] at this
    rcases this with h1 | h1
    · have := hd _ h1; simp at this
    · have := hR.mem h1; simp at this; omega
end Go.Proofs.Ytkklpmfjbkapiaa.Sq
