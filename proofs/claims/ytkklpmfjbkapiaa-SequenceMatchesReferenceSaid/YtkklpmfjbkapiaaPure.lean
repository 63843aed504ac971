/- PLAIN LAWS OF SEQUENCES: longest common subsequences, the matching, merging. No program is spoken of here. -/
namespace Go.Proofs.Ytkklpmfjbkapiaa.Sq
variable {α : Type} [DecidableEq α]

/-- one row of the lengths -/
def lcsRow (x : α) (f : List α → Nat) : List α → Nat
  | [] => 0
  | y :: ys => if x = y then f ys + 1 else max (f (y :: ys)) (lcsRow x f ys)
/-- the length of a longest common subsequence -/
def lcs : List α → List α → Nat
  | [] => fun _ => 0
  | x :: xs => lcsRow x (lcs xs)

@[simp] theorem lcs_nil_left (b : List α) : lcs [] b = 0 := rfl
@[simp] theorem lcs_nil_right (a : List α) : lcs a [] = 0 := by cases a <;> rfl
theorem lcs_cons (x y : α) (xs ys : List α) : lcs (x :: xs) (y :: ys) = if x = y then lcs xs ys + 1 else max (lcs xs (y :: ys)) (lcs (x :: xs) ys) := rfl
theorem lcs_eq (x : α) (xs ys : List α) : lcs (x :: xs) (x :: ys) = lcs xs ys + 1 := by rw [lcs_cons, if_pos rfl]
theorem lcs_ne {x y : α} (h : x ≠ y) (xs ys : List α) : lcs (x :: xs) (y :: ys) = max (lcs xs (y :: ys)) (lcs (x :: xs) ys) := by rw [lcs_cons, if_neg h]

omit [DecidableEq α] in
/-- induction along two lists, both shortened -/
theorem ind2 {P : List α → List α → Prop} (n1 : ∀ b, P [] b) (n2 : ∀ x xs, P (x :: xs) []) (c : ∀ x xs y ys, P xs ys → P xs (y :: ys) → P (x :: xs) ys → P (x :: xs) (y :: ys)) : ∀ a b, P a b := by
  intro a
  induction a with
  | nil => exact n1
  | cons x xs ih =>
    intro b
    induction b with
    | nil => exact n2 x xs
    | cons y ys ih2 => exact c x xs y ys (ih ys) (ih _) ih2

theorem lcs_le_left (a b : List α) : lcs a b ≤ a.length := by
  induction a, b using ind2 with
  | n1 b => simp
  | n2 x xs => simp
  | c x xs y ys h1 h2 h3 =>
    simp only [List.length_cons] at *
    rw [lcs_cons]; split <;> omega
theorem lcs_le_right (a b : List α) : lcs a b ≤ b.length := by
  induction a, b using ind2 with
  | n1 b => simp
  | n2 x xs => simp
  | c x xs y ys h1 h2 h3 =>
    simp only [List.length_cons] at *
    rw [lcs_cons]; split <;> omega
theorem lcs_comm (a b : List α) : lcs a b = lcs b a := by
  induction a, b using ind2 with
  | n1 b => simp
  | n2 x xs => simp
  | c x xs y ys h1 h2 h3 =>
    rw [lcs_cons, lcs_cons]
    by_cases h : x = y
    · rw [if_pos h, if_pos h.symm, h1]
    · rw [if_neg h, if_neg (fun e => h e.symm), h2, h3, Nat.max_comm]

/-- no common subsequence is longer -/
theorem lcs_best : ∀ (a b s : List α), s.Sublist a → s.Sublist b → s.length ≤ lcs a b := by
  intro a b
  induction a, b using ind2 with
  | n1 b => intro s h _; have := h.length_le; simpa using this
  | n2 x xs => intro s _ h; have := h.length_le; simpa using this
  | c x xs y ys h1 h2 h3 =>
    intro s ha hb
    by_cases e : x = y
    · subst e
      rw [lcs_eq]
      cases s with
      | nil => simp
      | cons z zs =>
        have := h1 zs (by cases ha with | cons _ h => exact (List.sublist_cons_self z zs).trans h | cons_cons _ h => exact h)
          (by cases hb with | cons _ h => exact (List.sublist_cons_self z zs).trans h | cons_cons _ h => exact h)
        simpa using this
    · rw [lcs_ne e]
      cases ha with
      | cons _ h => have := h2 s h hb; omega
      | cons_cons _ h =>
        cases hb with
        | cons _ h' => have := h3 _ (List.Sublist.cons_cons x h) h'; omega
        | cons_cons _ h' => exact absurd rfl e

theorem lcs_some (a b : List α) : ∃ s : List α, s.Sublist a ∧ s.Sublist b ∧ s.length = lcs a b := by
  induction a, b using ind2 with
  | n1 b => exact ⟨[], List.Sublist.refl _, List.nil_sublist _, rfl⟩
  | n2 x xs => exact ⟨[], List.nil_sublist _, List.Sublist.refl _, by simp⟩
  | c x xs y ys h1 h2 h3 =>
    by_cases e : x = y
    · subst e
      obtain ⟨s, ha, hb, hl⟩ := h1
      exact ⟨x :: s, ha.cons_cons x, hb.cons_cons x, by rw [lcs_eq]; simpa using hl⟩
    · obtain ⟨s, ha, hb, hl⟩ := h2
      obtain ⟨t, ka, kb, kl⟩ := h3
      rw [lcs_ne e]
      by_cases c : lcs (x :: xs) ys ≤ lcs xs (y :: ys)
      · exact ⟨s, ha.trans (List.sublist_cons_self _ _), hb, by omega⟩
      · exact ⟨t, ka, kb.trans (List.sublist_cons_self _ _), by omega⟩

theorem lcs_mono {a a' b b' : List α} (h : a.Sublist a') (k : b.Sublist b') : lcs a b ≤ lcs a' b' := by
  obtain ⟨s, ha, hb, hl⟩ := lcs_some a b
  rw [← hl]
  exact lcs_best _ _ _ (ha.trans h) (hb.trans k)

theorem lcs_self (a : List α) : lcs a a = a.length :=
  Nat.le_antisymm (lcs_le_left a a) (lcs_best a a a (List.Sublist.refl _) (List.Sublist.refl _))

theorem lcs_tail_le (x : α) (xs b : List α) : lcs (x :: xs) b ≤ lcs xs b + 1 := by
  obtain ⟨s, ha, hb, hl⟩ := lcs_some (x :: xs) b
  have := lcs_best xs b s.tail ha.tail ((List.tail_sublist s).trans hb)
  simp only [List.length_tail] at this
  omega

theorem lcs_snoc (a b : List α) (z : α) : lcs (a ++ [z]) (b ++ [z]) = lcs a b + 1 := by
  apply Nat.le_antisymm
  · obtain ⟨s, ha, hb, hl⟩ := lcs_some (a ++ [z]) (b ++ [z])
    have key : ∀ l : List α, s.Sublist (l ++ [z]) → s.dropLast.Sublist l := by
      intro l h
      have h' := h.reverse
      simp only [List.reverse_append, List.reverse_cons, List.reverse_nil, List.nil_append, List.singleton_append] at h'
      have := h'.tail.reverse
      simpa [List.tail_reverse] using this
    have := lcs_best a b s.dropLast (key a ha) (key b hb)
    simp only [List.length_dropLast] at this
    omega
  · obtain ⟨s, ha, hb, hl⟩ := lcs_some a b
    have := lcs_best (a ++ [z]) (b ++ [z]) (s ++ [z]) (ha.append (List.Sublist.refl _)) (hb.append (List.Sublist.refl _))
    simp only [List.length_append, List.length_singleton] at this
    omega

theorem lcs_append (a b s : List α) : lcs (a ++ s) (b ++ s) = lcs a b + s.length := by
  induction s generalizing a b with
  | nil => simp
  | cons z s ih =>
    have := ih (a ++ [z]) (b ++ [z])
    rw [List.append_assoc, List.append_assoc, lcs_snoc] at this
    simpa [Nat.add_assoc, Nat.add_comm 1] using this

/-! the matching -/
def mtRow (x : α) (xs : List α) (f : List α → Nat → Nat → List (Nat × Nat)) : List α → Nat → Nat → List (Nat × Nat)
  | [], _, _ => []
  | y :: ys, i, k => if x = y then (i, k) :: f ys (i + 1) (k + 1) else if lcs xs (y :: ys) = lcs (x :: xs) (y :: ys) then f (y :: ys) (i + 1) k else mtRow x xs f ys i (k + 1)
def mt : List α → List α → Nat → Nat → List (Nat × Nat)
  | [] => fun _ _ _ => []
  | x :: xs => mtRow x xs (mt xs)
@[simp] theorem mt_nil_left (b : List α) (i k : Nat) : mt [] b i k = [] := rfl
@[simp] theorem mt_nil_right (a : List α) (i k : Nat) : mt a [] i k = [] := by cases a <;> rfl
theorem mt_cons (x y : α) (xs ys : List α) (i k : Nat) : mt (x :: xs) (y :: ys) i k =
    if x = y then (i, k) :: mt xs ys (i + 1) (k + 1) else if lcs xs (y :: ys) = lcs (x :: xs) (y :: ys) then mt xs (y :: ys) (i + 1) k else mt (x :: xs) ys i (k + 1) := rfl
theorem mt_eq (x : α) (xs ys : List α) (i k : Nat) : mt (x :: xs) (x :: ys) i k = (i, k) :: mt xs ys (i + 1) (k + 1) := by rw [mt_cons, if_pos rfl]
theorem mt_left {x y : α} (h : x ≠ y) {xs ys : List α} (e : lcs xs (y :: ys) = lcs (x :: xs) (y :: ys)) (i k : Nat) : mt (x :: xs) (y :: ys) i k = mt xs (y :: ys) (i + 1) k := by
  rw [mt_cons, if_neg h, if_pos e]
theorem mt_right {x y : α} (h : x ≠ y) {xs ys : List α} (e : lcs xs (y :: ys) ≠ lcs (x :: xs) (y :: ys)) (i k : Nat) : mt (x :: xs) (y :: ys) i k = mt (x :: xs) ys i (k + 1) := by
  rw [mt_cons, if_neg h, if_neg e]

/-- the longest common subsequence that is taken -/
def com (a b : List α) : List α := match a, b with
  | [], _ => []
  | _ :: _, [] => []
  | x :: xs, y :: ys => (mt (x :: xs) (y :: ys) 0 0).filterMap fun p => (x :: xs)[p.1]?
theorem com_def (a b : List α) : com a b = (mt a b 0 0).filterMap fun p => a[p.1]? := by cases a <;> cases b <;> simp [com]

/-- increasing in both places -/
def Inc : Nat → Nat → List (Nat × Nat) → Prop
  | _, _, [] => True
  | i, k, (p, q) :: r => i ≤ p ∧ k ≤ q ∧ Inc (p + 1) (q + 1) r
theorem Inc.mono {i k i' k' : Nat} {l : List (Nat × Nat)} (h : Inc i k l) (hi : i' ≤ i) (hk : k' ≤ k) : Inc i' k' l := by
  cases l with
  | nil => trivial
  | cons p r => exact ⟨Nat.le_trans hi h.1, Nat.le_trans hk h.2.1, h.2.2⟩
theorem mt_inc (a b : List α) : ∀ i k, Inc i k (mt a b i k) := by
  induction a, b using ind2 with
  | n1 b => intro i k; trivial
  | n2 x xs => intro i k; rw [mt_nil_right]; trivial
  | c x xs y ys h1 h2 h3 =>
    intro i k
    rw [mt_cons]
    split
    · exact ⟨Nat.le_refl _, Nat.le_refl _, h1 _ _⟩
    · split
      · exact (h2 _ _).mono (by omega) (Nat.le_refl _)
      · exact (h3 _ _).mono (Nat.le_refl _) (by omega)
theorem Inc.mem {i k : Nat} {l : List (Nat × Nat)} (h : Inc i k l) {p : Nat × Nat} (hp : p ∈ l) : i ≤ p.1 ∧ k ≤ p.2 := by
  induction l generalizing i k with
  | nil => cases hp
  | cons q r ih =>
    obtain ⟨h1, h2, h3⟩ := h
    rcases List.mem_cons.1 hp with rfl | hp
    · exact ⟨h1, h2⟩
    · have := ih h3 hp; omega

/-- what is matched is equal, and lies inside -/
theorem mt_val (A B : List α) (a b : List α) : ∀ i k, A.drop i = a → B.drop k = b → ∀ p ∈ mt a b i k, ∃ x, A[p.1]? = some x ∧ B[p.2]? = some x := by
  induction a, b using ind2 with
  | n1 b => intro i k _ _ p hp; cases hp
  | n2 x xs => intro i k _ _ p hp; rw [mt_nil_right] at hp; cases hp
  | c x xs y ys h1 h2 h3 =>
    intro i k ha hb p hp
    have ha' : A.drop (i + 1) = xs := by rw [← List.tail_drop, ha]; rfl
    have hb' : B.drop (k + 1) = ys := by rw [← List.tail_drop, hb]; rfl
    have ha0 : A[i]? = some x := by have := congrArg (·[0]?) ha; simpa using this
    have hb0 : B[k]? = some y := by have := congrArg (·[0]?) hb; simpa using this
    rw [mt_cons] at hp
    split at hp
    · rename_i e
      rcases List.mem_cons.1 hp with rfl | hp
      · exact ⟨x, ha0, by rw [hb0, e]⟩
      · exact h1 _ _ ha' hb' p hp
    · split at hp
      · exact h2 _ _ ha' hb p hp
      · exact h3 _ _ ha hb' p hp

theorem mt_map_sub (A B : List α) (a b : List α) : ∀ i k, A.drop i = a → B.drop k = b →
    ((mt a b i k).filterMap fun p => A[p.1]?).Sublist a ∧ ((mt a b i k).filterMap fun p => A[p.1]?).Sublist b ∧ ((mt a b i k).filterMap fun p => A[p.1]?).length = lcs a b := by
  induction a, b using ind2 with
  | n1 b => intro i k _ _; simp
  | n2 x xs => intro i k _ _; simp
  | c x xs y ys h1 h2 h3 =>
    intro i k ha hb
    have ha' : A.drop (i + 1) = xs := by rw [← List.tail_drop, ha]; rfl
    have hb' : B.drop (k + 1) = ys := by rw [← List.tail_drop, hb]; rfl
    have ha0 : A[i]? = some x := by have := congrArg (·[0]?) ha; simpa using this
    rw [mt_cons, lcs_cons]
    split
    · rename_i e
      obtain ⟨s1, s2, s3⟩ := h1 _ _ ha' hb'
      simp only [List.filterMap_cons, ha0, List.length_cons, s3]
      exact ⟨s1.cons_cons x, by rw [← e]; exact s2.cons_cons x, trivial⟩
    · split
      · rename_i e
        obtain ⟨s1, s2, s3⟩ := h2 _ _ ha' hb
        have hc := lcs_mono (List.sublist_cons_self x xs) (List.Sublist.refl (y :: ys))
        have hd := lcs_mono (List.Sublist.refl (x :: xs)) (List.sublist_cons_self y ys)
        exact ⟨s1.trans (List.sublist_cons_self _ _), s2, by rw [s3]; omega⟩
      · rename_i e e'
        obtain ⟨s1, s2, s3⟩ := h3 _ _ ha hb'
        have := lcs_ne e xs ys
        exact ⟨s1, s2.trans (List.sublist_cons_self _ _), by rw [s3]; omega⟩

theorem com_sub_left (a b : List α) : (com a b).Sublist a := by rw [com_def]; exact (mt_map_sub a b a b 0 0 rfl rfl).1
theorem com_sub_right (a b : List α) : (com a b).Sublist b := by rw [com_def]; exact (mt_map_sub a b a b 0 0 rfl rfl).2.1
theorem com_len (a b : List α) : (com a b).length = lcs a b := by rw [com_def]; exact (mt_map_sub a b a b 0 0 rfl rfl).2.2
theorem com_self (a : List α) : com a a = a := (com_sub_left a a).eq_of_length (by rw [com_len, lcs_self])

/-- the elements of some pairs' first places -/
def fst (a : List α) (P : List (Nat × Nat)) : List α := P.filterMap fun p => a[p.1]?
omit [DecidableEq α] in
theorem fst_take {a : List α} {P : List (Nat × Nat)} {k : Nat} (hk : k < P.length) (h : P[k].1 < a.length) : fst a (P.take (k + 1)) = fst a (P.take k) ++ [a[P[k].1]] := by
  unfold fst
  rw [List.take_succ_eq_append_getElem hk, List.filterMap_append]
  simp [List.getElem?_eq_getElem h]
omit [DecidableEq α] in
theorem fst_len {a : List α} {P : List (Nat × Nat)} (h : ∀ p ∈ P, p.1 < a.length) : (fst a P).length = P.length := by
  unfold fst
  induction P with
  | nil => rfl
  | cons p P ih =>
    rw [List.filterMap_cons, List.getElem?_eq_getElem (h p List.mem_cons_self)]
    simp [ih fun q hq => h q (List.mem_cons_of_mem _ hq)]
theorem mt_in (a b : List α) : ∀ p ∈ mt a b 0 0, p.1 < a.length ∧ p.2 < b.length := by
  intro p hp
  obtain ⟨x, h1, h2⟩ := mt_val a b a b 0 0 rfl rfl p hp
  exact ⟨(List.getElem?_eq_some_iff.1 h1).1, (List.getElem?_eq_some_iff.1 h2).1⟩
theorem mt_len (a b : List α) : (mt a b 0 0).length = lcs a b := by
  rw [← com_len, com_def, ← fst_len (a := a) fun p hp => (mt_in a b p hp).1]; rfl
theorem com_fst (a b : List α) : com a b = fst a (mt a b 0 0) := com_def a b
end Go.Proofs.Ytkklpmfjbkapiaa.Sq
