/- PLAIN LAWS OF SEQUENCES: two changes that are apart. No program is spoken of here. -/
import Derived.Test.YtkklpmfjbkapiaaPure2
namespace Go.Proofs.Ytkklpmfjbkapiaa.Sq
variable {α : Type} [DecidableEq α]

/-- n pairs along a diagonal -/
def diag : Nat → Nat → Nat → List (Nat × Nat)
  | 0, _, _ => []
  | n + 1, i, k => (i, k) :: diag n (i + 1) (k + 1)
theorem diag_mem {n : Nat} : ∀ {i k : Nat} {x : Nat × Nat}, x ∈ diag n i k → ∃ t, t < n ∧ x = (i + t, k + t) := by
  induction n with
  | zero => intro i k x h; cases h
  | succ n ih =>
    intro i k x h
    rcases List.mem_cons.1 h with rfl | h
    · exact ⟨0, by omega, rfl⟩
    · obtain ⟨t, ht, rfl⟩ := ih h; exact ⟨t + 1, by omega, by simp; omega⟩
theorem diag_asg {n : Nat} : ∀ {i k t : Nat}, t < n → asg (diag n i k) (i + t) = some (k + t) := by
  induction n with
  | zero => intro i k t h; omega
  | succ n ih =>
    intro i k t h
    cases t with
    | zero => simp [diag, asg]
    | succ t =>
      simp only [diag, asg]
      rw [if_neg (by omega)]
      have := @ih (i + 1) (k + 1) t (by omega)
      rw [show i + (t + 1) = i + 1 + t by omega, this, show k + (t + 1) = k + 1 + t by omega]
theorem diag_asg_ge {n i k p : Nat} (h : i + n ≤ p) : asg (diag n i k) p = none := by
  cases e : asg (diag n i k) p with
  | none => rfl
  | some q => obtain ⟨t, ht, hx⟩ := diag_mem (asg_mem e); cases hx; omega
theorem diag_add (n m : Nat) : ∀ i k, diag (n + m) i k = diag n i k ++ diag m (i + n) (k + n) := by
  induction n with
  | zero => intro i k; simp [diag]
  | succ n ih => intro i k; rw [show n + 1 + m = (n + m) + 1 by omega]; simp only [diag, ih, List.cons_append]; rw [show i + 1 + n = i + (n + 1) by omega, show k + 1 + n = k + (n + 1) by omega]

theorem mt_pre (m r l : List α) : ∀ i k, mt (m ++ r) (m ++ l) i k = diag m.length i k ++ mt r l (i + m.length) (k + m.length) := by
  induction m with
  | nil => intro i k; simp [diag]
  | cons x m ih =>
    intro i k
    simp only [List.cons_append, List.length_cons, diag]
    rw [mt_eq, ih]
    rw [show i + 1 + m.length = i + (m.length + 1) by omega, show k + 1 + m.length = k + (m.length + 1) by omega]
theorem mt_self (m : List α) (i k : Nat) : mt m m i k = diag m.length i k := by
  have := mt_pre m [] [] i k
  simpa using this

theorem mt_suf_nil (f s : List α) (hf : ∀ x ∈ s, x ∉ f) : ∀ i k, mt s (f ++ s) i k = diag s.length i (k + f.length) := by
  induction f with
  | nil => intro i k; rw [List.nil_append, mt_self]; rfl
  | cons y f ih =>
    intro i k
    cases s with
    | nil => rfl
    | cons x s =>
      have hne : x ≠ y := fun e => hf x List.mem_cons_self (by rw [e]; exact List.mem_cons_self)
      rw [List.cons_append, mt_right hne, ih (fun z hz hm => hf z hz (List.mem_cons_of_mem _ hm))]
      · rw [List.length_cons, List.length_cons]
        rw [show k + 1 + f.length = k + (f.length + 1) by omega]
      · have h1 := lcs_le_left s (y :: (f ++ x :: s))
        have h2 := lcs_best (x :: s) (y :: (f ++ x :: s)) (x :: s) (List.Sublist.refl _) ((List.sublist_append_right f (x :: s)).trans (List.sublist_cons_self _ _))
        simp only [List.length_cons] at h2
        omega

theorem mt_suf (p f s : List α) (hp : ∀ x ∈ s, x ∉ p) (hf : ∀ x ∈ s, x ∉ f) : ∀ i k, mt (p ++ s) (f ++ s) i k = mt p f i k ++ diag s.length (i + p.length) (k + f.length) := by
  induction p, f using ind2 with
  | n1 f => intro i k; rw [List.nil_append, mt_suf_nil f s hf]; simp
  | n2 x xs =>
    suffices h : ∀ (l : List α), (∀ x ∈ s, x ∉ l) → ∀ i k, mt (l ++ s) s i k = diag s.length (i + l.length) k by
      intro i k
      rw [List.nil_append, h _ hp]; simp
    intro l
    induction l with
    | nil => intro _ i k; rw [List.nil_append, mt_self]; rfl
    | cons y l ih =>
      intro hl i k
      cases s with
      | nil => simp [diag]
      | cons z s =>
        have hne : y ≠ z := fun e => hl z List.mem_cons_self (by rw [e]; exact List.mem_cons_self)
        rw [List.cons_append, mt_left hne, ih (fun w hw hm => hl w hw (List.mem_cons_of_mem _ hm))]
        · rw [List.length_cons, List.length_cons, show i + 1 + l.length = i + (l.length + 1) by omega]
        · have h1 := lcs_best (l ++ z :: s) (z :: s) (z :: s) (List.sublist_append_right l _) (List.Sublist.refl _)
          have h2 := lcs_le_right (l ++ z :: s) (z :: s)
          have h3 := lcs_le_right (y :: (l ++ z :: s)) (z :: s)
          have h4 := lcs_mono (List.sublist_cons_self y (l ++ z :: s)) (List.Sublist.refl (z :: s))
          omega
  | c x xs y ys h1 h2 h3 =>
    intro i k
    have hp' : ∀ z ∈ s, z ∉ xs := fun z hz hm => hp z hz (List.mem_cons_of_mem _ hm)
    have hf' : ∀ z ∈ s, z ∉ ys := fun z hz hm => hf z hz (List.mem_cons_of_mem _ hm)
    have e1 := lcs_append xs (y :: ys) s
    have e2 := lcs_append (x :: xs) (y :: ys) s
    simp only [List.cons_append] at e1 e2
    by_cases e : x = y
    · subst e
      simp only [List.cons_append]
      rw [mt_eq, mt_eq, h1 hp' hf', List.cons_append]
      simp only [List.length_cons]
      rw [show i + 1 + xs.length = i + (xs.length + 1) by omega, show k + 1 + ys.length = k + (ys.length + 1) by omega]
    · by_cases t : lcs xs (y :: ys) = lcs (x :: xs) (y :: ys)
      · have := h2 hp' hf (i + 1) k
        simp only [List.cons_append] at this ⊢
        rw [mt_left e t, mt_left e (by omega), this]
        simp only [List.length_cons]
        rw [show i + 1 + xs.length = i + (xs.length + 1) by omega]
      · have := h3 hp hf' i (k + 1)
        simp only [List.cons_append] at this ⊢
        rw [mt_right e t, mt_right e (by omega), this]
        simp only [List.length_cons]
        rw [show k + 1 + ys.length = k + (ys.length + 1) by omega]

/-- behind the last of some pairs -/
def behind : List (Nat × Nat) → Nat → Nat → Nat × Nat
  | [], i, j => (i, j)
  | (p, q) :: l, _, _ => behind l (p + 1) (q + 1)
theorem behind_append (X Y : List (Nat × Nat)) : ∀ i j, behind (X ++ Y) i j = behind Y (behind X i j).1 (behind X i j).2 := by
  induction X with
  | nil => intro i j; rfl
  | cons x X ih => intro i j; obtain ⟨p, q⟩ := x; exact ih _ _
theorem behind_diag (n : Nat) : ∀ i k i' k', 0 < n → behind (diag n i k) i' k' = (i + n, k + n) := by
  induction n with
  | zero => intro i k i' k' h; omega
  | succ n ih =>
    intro i k i' k' _
    simp only [diag, behind]
    cases n with
    | zero => rfl
    | succ n => rw [ih _ _ _ _ (by omega)]; simp; omega

/-- where theirs agrees with the base as far as needed, the chunks are ours -/
theorem mg_ours {base ours theirs : List α} {m : Nat} (hm : base.take m = theirs.take m) (S2 : List (Nat × Nat × Nat)) :
    ∀ (X : List (Nat × Nat)) (i j : Nat), Inc i j X → (∀ x ∈ X, x.1 < m ∧ ∃ v, base[x.1]? = some v ∧ ours[x.2]? = some v) →
    mg base ours theirs (X.map (fun x => (x.1, x.2, x.1)) ++ S2) i j i =
      (mg base ours theirs S2 (behind X i j).1 (behind X i j).2 (behind X i j).1).map fun l => (ours.take (behind X i j).2).drop j ++ l := by
  intro X
  induction X with
  | nil => intro i j _ _; simp [behind]
  | cons x X ih =>
    intro i j hi hv
    obtain ⟨p, q⟩ := x
    obtain ⟨h1, h2, h3⟩ := hi
    obtain ⟨hlt, v, v1, v2⟩ := hv (p, q) List.mem_cons_self
    simp only at hlt v1 v2
    have et : (base.take p) = (theirs.take p) := by
      have := congrArg (List.take p) hm
      simpa [List.take_take, Nat.min_eq_left (Nat.le_of_lt hlt)] using this
    simp only [List.map_cons, List.cons_append, mg, behind]
    rw [← et, chunk_base']
    simp only
    rw [ih _ _ h3 (fun y hy => hv y (List.mem_cons_of_mem _ hy)), v1]
    simp only [Option.map_map, Option.toList_some]
    congr 1
    funext l
    simp only [Function.comp]
    have hb : q + 1 ≤ (behind X (p + 1) (q + 1)).2 := by
      clear ih hv et
      suffices h : ∀ (X : List (Nat × Nat)) a b, Inc a b X → b ≤ (behind X a b).2 from h X _ _ h3
      intro X
      induction X with
      | nil => intro a b _; exact Nat.le_refl _
      | cons y Y ihY => intro a b h; obtain ⟨c, d⟩ := y; have := ihY _ _ h.2.2; have := h.2.1; simp only [behind]; omega
    have hq : q < ours.length := (List.getElem?_eq_some_iff.1 v2).1
    have v2' : (ours.take (behind X (p + 1) (q + 1)).2)[q]? = some v := by rw [List.getElem?_take, if_pos (by omega), v2]
    have := piece (ours.take (behind X (p + 1) (q + 1)).2) h2 v2'
    rw [← this, List.take_take, Nat.min_eq_left (by omega)]
    simp

theorem stab_pre (X : List (Nat × Nat)) (n : Nat) (Y' : List (Nat × Nat)) (h : ∀ x ∈ X, x.1 < n) : stab X (diag n 0 0 ++ Y') = X.map fun x => (x.1, x.2, x.1) := by
  induction X with
  | nil => rfl
  | cons x X ih =>
    obtain ⟨p, q⟩ := x
    have hp : p < n := h (p, q) List.mem_cons_self
    have := @diag_asg n 0 0 p hp
    simp only [Nat.zero_add] at this
    rw [stab_cons, asg_append, this]
    simp only [Option.some_or, List.map_cons]
    rw [ih fun y hy => h y (List.mem_cons_of_mem _ hy)]

omit [DecidableEq α] in
theorem drop_past (a r : List α) {i : Nat} (h : a.length ≤ i) : (a ++ r).drop i = r.drop (i - a.length) := by
  rw [List.drop_append, List.drop_of_length_le h, List.nil_append]
omit [DecidableEq α] in
theorem take_past (a r : List α) {i : Nat} (h : a.length ≤ i) : (a ++ r).take i = a ++ r.take (i - a.length) := by
  rw [List.take_append, List.take_of_length_le h]

theorem mrg_apart (p q r f l : List α) (hq : q ≠ []) (hpq : ∀ x ∈ q, x ∉ p) (hpr : ∀ x ∈ r, x ∉ p) (hfq : ∀ x ∈ q, x ∉ f) (hfr : ∀ x ∈ r, x ∉ f) :
    mrg (p ++ q ++ r) (f ++ q ++ r) (p ++ q ++ l) = some (f ++ q ++ l) := by
  have hqp : 0 < q.length := List.length_pos_iff.2 hq
  have eX : mt (p ++ q ++ r) (f ++ q ++ r) 0 0 = (mt p f 0 0 ++ diag q.length p.length f.length) ++ diag r.length (p.length + q.length) (f.length + q.length) := by
    rw [List.append_assoc, List.append_assoc, mt_suf p f (q ++ r), List.length_append, diag_add]
    · simp
    · intro x hx; rcases List.mem_append.1 hx with h | h
      · exact hpq x h
      · exact hpr x h
    · intro x hx; rcases List.mem_append.1 hx with h | h
      · exact hfq x h
      · exact hfr x h
  have eY : mt (p ++ q ++ r) (p ++ q ++ l) 0 0 = diag (p ++ q).length 0 0 ++ mt r l (p.length + q.length) (p.length + q.length) := by
    rw [mt_pre]; simp
  have hinc := mt_inc (p ++ q ++ r) (f ++ q ++ r) 0 0
  have hval := mt_val (p ++ q ++ r) (f ++ q ++ r) (p ++ q ++ r) (f ++ q ++ r) 0 0 rfl rfl
  have hS := stabOf_inc (p ++ q ++ r) (f ++ q ++ r) (p ++ q ++ l)
  have hV := stabOf_val (p ++ q ++ r) (f ++ q ++ r) (p ++ q ++ l)
  have hX1 : ∀ x ∈ mt p f 0 0 ++ diag q.length p.length f.length, x.1 < (p ++ q).length := by
    intro x hx
    rw [List.length_append]
    rcases List.mem_append.1 hx with h | h
    · obtain ⟨v, hv, _⟩ := mt_val p f p f 0 0 rfl rfl x h
      have := (List.getElem?_eq_some_iff.1 hv).1
      omega
    · obtain ⟨t, ht, rfl⟩ := diag_mem h
      simp only; omega
  unfold mrg
  unfold stabOf at hS hV ⊢
  rw [eX, eY] at hS hV ⊢
  rw [eX] at hinc hval
  rw [stab_append, stab_pre _ _ _ hX1] at hS hV ⊢
  have hinc1 : Inc 0 0 (mt p f 0 0 ++ diag q.length p.length f.length) := by
    suffices h : ∀ (X Y : List (Nat × Nat)) i j, Inc i j (X ++ Y) → Inc i j X from h _ _ _ _ hinc
    intro X
    induction X with
    | nil => intro Y i j _; trivial
    | cons x X ih => intro Y i j h; obtain ⟨a, b⟩ := x; exact ⟨h.1, h.2.1, ih _ _ _ h.2.2⟩
  rw [mg_ours (m := (p ++ q).length) (by rw [List.take_left, List.take_left]) _ _ 0 0 hinc1 (fun x hx => ⟨hX1 x hx, hval x (List.mem_append_left _ hx)⟩)]
  have hbh : behind (mt p f 0 0 ++ diag q.length p.length f.length) 0 0 = (p.length + q.length, f.length + q.length) := by
    rw [behind_append, behind_diag _ _ _ _ _ hqp]
  rw [hbh]
  simp only
  have hS2 : Inc3 (p.length + q.length) (f.length + q.length) (p.length + q.length) (stab (diag r.length (p.length + q.length) (f.length + q.length)) (diag (p ++ q).length 0 0 ++ mt r l (p.length + q.length) (p.length + q.length))) := by
    suffices h : ∀ (X : List (Nat × Nat)) (S : List (Nat × Nat × Nat)) i j, Inc3 i j i (X.map (fun x => (x.1, x.2, x.1)) ++ S) → Inc3 (behind X i j).1 (behind X i j).2 (behind X i j).1 S by
      have := h _ _ 0 0 hS
      rwa [hbh] at this
    intro X
    induction X with
    | nil => intro S i j h; exact h
    | cons x X ih => intro S i j h; obtain ⟨a, b⟩ := x; exact ih _ _ _ h.2.2.2
  rw [mg_theirs (fun i j _ => p.length + q.length ≤ i ∧ i + (f.length + q.length) = j + (p.length + q.length)) ?_ _ (fun x hx => hV x (List.mem_append_right _ hx)) ?_ _ _ _ hS2 ⟨Nat.le_refl _, by omega⟩]
  · simp only [Option.map_some, List.drop_zero]
    congr 1
    rw [List.take_append_of_le_length (by simp), List.take_of_length_le (by simp)]
    rw [show p.length + q.length = (p ++ q).length by simp, List.drop_left]
  · intro i j k h
    have : (p ++ q ++ r).drop i = (f ++ q ++ r).drop j := by
      obtain ⟨h1, h2⟩ := h
      rw [drop_past (p ++ q) r (by rw [List.length_append]; omega), drop_past (f ++ q) r (by rw [List.length_append]; omega)]
      simp only [List.length_append]
      congr 1; omega
    rw [this]; exact chunk_base _ _
  · intro x hx i j k h h1 h2 h3
    obtain ⟨a, b, c⟩ := x
    obtain ⟨t, ht, e⟩ := diag_mem (stab_mem hx).1
    injection e with e1 e2
    subst e1 e2
    simp only at h1 h2 h3 ⊢
    obtain ⟨g1, g2⟩ := h
    have : ((p ++ q ++ r).take (p.length + q.length + t)).drop i = ((f ++ q ++ r).take (f.length + q.length + t)).drop j := by
      rw [take_past (p ++ q) r (by rw [List.length_append]; omega), take_past (f ++ q) r (by rw [List.length_append]; omega)]
      rw [drop_past (p ++ q) _ (by rw [List.length_append]; omega), drop_past (f ++ q) _ (by rw [List.length_append]; omega)]
      simp only [List.length_append]
      rw [show p.length + q.length + t - (p.length + q.length) = t by omega, show f.length + q.length + t - (f.length + q.length) = t by omega]
      congr 1; omega
    rw [this]
    exact ⟨chunk_base _ _, by omega, by omega⟩
end Go.Proofs.Ytkklpmfjbkapiaa.Sq
