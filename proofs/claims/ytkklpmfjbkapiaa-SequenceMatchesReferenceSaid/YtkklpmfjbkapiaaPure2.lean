/- PLAIN LAWS OF SEQUENCES: merging. No program is spoken of here. -/
import Derived.Test.YtkklpmfjbkapiaaPure
namespace Go.Proofs.Ytkklpmfjbkapiaa.Sq

/-- with what a place is matched -/
def asg : List (Nat × Nat) → Nat → Option Nat
  | [], _ => none
  | (p, q) :: r, i => if p = i then some q else asg r i
theorem asg_lt {i k : Nat} {l : List (Nat × Nat)} (h : Inc i k l) {p : Nat} (hp : p < i) : asg l p = none := by
  induction l generalizing i k with
  | nil => rfl
  | cons q r ih =>
    obtain ⟨h1, h2, h3⟩ := h
    simp only [asg]
    rw [if_neg (by omega), ih h3 (by omega)]
theorem asg_mem {l : List (Nat × Nat)} {p q : Nat} (h : asg l p = some q) : (p, q) ∈ l := by
  induction l with
  | nil => cases h
  | cons x r ih =>
    obtain ⟨a, b⟩ := x
    simp only [asg] at h
    split at h
    · rename_i e; cases h; subst e; exact List.mem_cons_self
    · exact List.mem_cons_of_mem _ (ih h)
theorem asg_of_mem {i k : Nat} {l : List (Nat × Nat)} (h : Inc i k l) {p q : Nat} (hm : (p, q) ∈ l) : asg l p = some q := by
  induction l generalizing i k with
  | nil => cases hm
  | cons x r ih =>
    obtain ⟨a, b⟩ := x
    obtain ⟨h1, h2, h3⟩ := h
    simp only [asg]
    rcases List.mem_cons.1 hm with e | hm
    · cases e; rw [if_pos rfl]
    · have := h3.mem hm
      simp only at this
      rw [if_neg (by omega), ih h3 hm]
theorem asg_append (l m : List (Nat × Nat)) (p : Nat) : asg (l ++ m) p = (asg l p).or (asg m p) := by
  induction l with
  | nil => simp [asg]
  | cons x r ih => obtain ⟨a, b⟩ := x; simp only [List.cons_append, asg]; split <;> simp [ih]

/-- the stable elements: the places in the base and in both sides -/
def stab (X Y : List (Nat × Nat)) : List (Nat × Nat × Nat) := X.filterMap fun p => (asg Y p.1).map fun r => (p.1, p.2, r)
@[simp] theorem stab_nil (Y : List (Nat × Nat)) : stab [] Y = [] := rfl
theorem stab_cons (p q : Nat) (X Y : List (Nat × Nat)) : stab ((p, q) :: X) Y = match asg Y p with | none => stab X Y | some r => (p, q, r) :: stab X Y := by
  unfold stab; rw [List.filterMap_cons]; cases h : asg Y p <;> simp
@[simp] theorem stab_nil_right (X : List (Nat × Nat)) : stab X [] = [] := by
  induction X with
  | nil => rfl
  | cons x r ih => obtain ⟨a, b⟩ := x; rw [stab_cons]; simpa [asg] using ih
theorem stab_append (X X' Y : List (Nat × Nat)) : stab (X ++ X') Y = stab X Y ++ stab X' Y := by unfold stab; exact List.filterMap_append
/-- what lies before all of X does not count -/
theorem stab_skip {i k p r : Nat} {X : List (Nat × Nat)} (h : Inc i k X) (hp : p < i) (Y : List (Nat × Nat)) : stab X ((p, r) :: Y) = stab X Y := by
  induction X generalizing i k with
  | nil => rfl
  | cons x l ih =>
    obtain ⟨a, b⟩ := x
    obtain ⟨h1, h2, h3⟩ := h
    rw [stab_cons, stab_cons, ih h3 (by omega)]
    simp only [asg]
    rw [if_neg (by omega)]

def Inc3 : Nat → Nat → Nat → List (Nat × Nat × Nat) → Prop
  | _, _, _, [] => True
  | i, j, k, (p, q, r) :: l => i ≤ p ∧ j ≤ q ∧ k ≤ r ∧ Inc3 (p + 1) (q + 1) (r + 1) l
theorem Inc3.mono {i j k i' j' k' : Nat} {l : List (Nat × Nat × Nat)} (h : Inc3 i j k l) (hi : i' ≤ i) (hj : j' ≤ j) (hk : k' ≤ k) : Inc3 i' j' k' l := by
  cases l with
  | nil => trivial
  | cons p r => exact ⟨Nat.le_trans hi h.1, Nat.le_trans hj h.2.1, Nat.le_trans hk h.2.2.1, h.2.2.2⟩

def swap (x : Nat × Nat × Nat) : Nat × Nat × Nat := (x.1, x.2.2, x.2.1)

theorem stab_both (X Y : List (Nat × Nat)) : ∀ i j k, Inc i j X → Inc i k Y → Inc3 i j k (stab X Y) ∧ stab Y X = (stab X Y).map swap := by
  induction X, Y using ind2 with
  | n1 Y => intro i j k _ _; exact ⟨trivial, by simp⟩
  | n2 x X => intro i j k _ _; rw [stab_nil_right]; exact ⟨trivial, by simp⟩
  | c x X y Y h1 h2 h3 =>
    intro i j k hx hy
    obtain ⟨p, q⟩ := x
    obtain ⟨p', r⟩ := y
    obtain ⟨x1, x2, x3⟩ := hx
    obtain ⟨y1, y2, y3⟩ := hy
    have hX : Inc p q ((p, q) :: X) := ⟨Nat.le_refl _, Nat.le_refl _, x3⟩
    have hY : Inc p' r ((p', r) :: Y) := ⟨Nat.le_refl _, Nat.le_refl _, y3⟩
    by_cases e : p = p'
    · subst e
      obtain ⟨g1, g2⟩ := h1 (p + 1) (q + 1) (r + 1) x3 y3
      have e1 : stab ((p, q) :: X) ((p, r) :: Y) = (p, q, r) :: stab X Y := by
        rw [stab_cons]; simp only [asg, if_true]; rw [stab_skip x3 (by omega)]
      have e2 : stab ((p, r) :: Y) ((p, q) :: X) = (p, r, q) :: stab Y X := by
        rw [stab_cons]; simp only [asg, if_true]; rw [stab_skip y3 (by omega)]
      rw [e1, e2, g2]
      exact ⟨⟨x1, x2, y2, g1⟩, rfl⟩
    · by_cases lt : p < p'
      · obtain ⟨g1, g2⟩ := h2 (p + 1) (q + 1) k x3 ⟨by omega, y2, y3⟩
        have hn : asg ((p', r) :: Y) p = none := asg_lt hY lt
        have e1 : stab ((p, q) :: X) ((p', r) :: Y) = stab X ((p', r) :: Y) := by rw [stab_cons, hn]
        have e2 : stab ((p', r) :: Y) ((p, q) :: X) = stab ((p', r) :: Y) X := stab_skip hY lt X
        rw [e1, e2]
        exact ⟨g1.mono (by omega) (by omega) (Nat.le_refl _), g2⟩
      · obtain ⟨g1, g2⟩ := h3 (p' + 1) j (r + 1) ⟨by omega, x2, x3⟩ y3
        have hn : asg ((p, q) :: X) p' = none := asg_lt hX (by omega)
        have e1 : stab ((p, q) :: X) ((p', r) :: Y) = stab ((p, q) :: X) Y := stab_skip hX (by omega) Y
        have e2 : stab ((p', r) :: Y) ((p, q) :: X) = stab Y ((p, q) :: X) := by rw [stab_cons, hn]
        rw [e1, e2]
        exact ⟨g1.mono (by omega) (Nat.le_refl _) (by omega), g2⟩

theorem stab_mem {X Y : List (Nat × Nat)} {p q r : Nat} (h : (p, q, r) ∈ stab X Y) : (p, q) ∈ X ∧ (p, r) ∈ Y := by
  unfold stab at h
  obtain ⟨⟨a, b⟩, hx, he⟩ := List.mem_filterMap.1 h
  simp only [Option.map_eq_some_iff, Prod.mk.injEq] at he
  obtain ⟨c, hc, rfl, rfl, rfl⟩ := he
  exact ⟨hx, asg_mem hc⟩

section
variable {α : Type} [DecidableEq α]
def chunk (b o t : List α) : Option (List α) := if o = b then some t else if t = b ∨ t = o then some o else none
theorem chunk_comm (b o t : List α) : chunk b o t = chunk b t o := by
  unfold chunk
  by_cases h1 : o = b <;> by_cases h2 : t = b <;> by_cases h3 : t = o <;> simp_all [eq_comm]
theorem chunk_base (b t : List α) : chunk b b t = some t := by simp [chunk]
theorem chunk_base' (b o : List α) : chunk b o b = some o := by rw [chunk_comm, chunk_base]
theorem chunk_both (b o : List α) : chunk b o o = some o := by simp [chunk]

/-- the merged list, from the places i, j, k on -/
def mg (base ours theirs : List α) : List (Nat × Nat × Nat) → Nat → Nat → Nat → Option (List α)
  | [], i, j, k => chunk (base.drop i) (ours.drop j) (theirs.drop k)
  | (p, q, r) :: S, i, j, k => match chunk ((base.take p).drop i) ((ours.take q).drop j) ((theirs.take r).drop k) with
    | none => none
    | some c => (mg base ours theirs S (p + 1) (q + 1) (r + 1)).map fun l => c ++ (base[p]?).toList ++ l
def stabOf (base ours theirs : List α) : List (Nat × Nat × Nat) := stab (mt base ours 0 0) (mt base theirs 0 0)
def mrg (base ours theirs : List α) : Option (List α) := mg base ours theirs (stabOf base ours theirs) 0 0 0

theorem mg_comm (base ours theirs : List α) (S : List (Nat × Nat × Nat)) : ∀ i j k, mg base theirs ours (S.map swap) i k j = mg base ours theirs S i j k := by
  induction S with
  | nil => intro i j k; exact chunk_comm _ _ _
  | cons x S ih =>
    intro i j k
    obtain ⟨p, q, r⟩ := x
    simp only [List.map_cons, swap, mg]
    rw [chunk_comm, ih]

theorem stabOf_inc (base ours theirs : List α) : Inc3 0 0 0 (stabOf base ours theirs) := (stab_both _ _ 0 0 0 (mt_inc _ _ 0 0) (mt_inc _ _ 0 0)).1
theorem stabOf_comm (base ours theirs : List α) : stabOf base theirs ours = (stabOf base ours theirs).map swap := (stab_both _ _ 0 0 0 (mt_inc _ _ 0 0) (mt_inc _ _ 0 0)).2

theorem mrg_comm (base ours theirs : List α) : mrg base theirs ours = mrg base ours theirs := by
  unfold mrg; rw [stabOf_comm, mg_comm]

def Val3 (base ours theirs : List α) (S : List (Nat × Nat × Nat)) : Prop := ∀ x ∈ S, ∃ v, base[x.1]? = some v ∧ ours[x.2.1]? = some v ∧ theirs[x.2.2]? = some v
theorem stabOf_val (base ours theirs : List α) : Val3 base ours theirs (stabOf base ours theirs) := by
  intro x hx
  obtain ⟨p, q, r⟩ := x
  obtain ⟨h1, h2⟩ := stab_mem hx
  obtain ⟨u, a1, a2⟩ := mt_val base ours base ours 0 0 rfl rfl _ h1
  obtain ⟨v, b1, b2⟩ := mt_val base theirs base theirs 0 0 rfl rfl _ h2
  simp only at a1 b1 a2 b2
  rw [a1] at b1
  injection b1 with e
  subst e
  exact ⟨_, a1, a2, b2⟩
omit [DecidableEq α] in
theorem piece (l : List α) {k r : Nat} {v : α} (hk : k ≤ r) (hv : l[r]? = some v) : (l.take r).drop k ++ [v] ++ l.drop (r + 1) = l.drop k := by
  obtain ⟨hlt, rfl⟩ := List.getElem?_eq_some_iff.1 hv
  have e : l.take r ++ ([l[r]] ++ l.drop (r + 1)) = l := by
    rw [List.singleton_append, ← List.drop_eq_getElem_cons hlt, List.take_append_drop]
  have h2 : ((l.take r) ++ ([l[r]] ++ l.drop (r + 1))).drop k = (l.take r).drop k ++ ([l[r]] ++ l.drop (r + 1)) := by
    rw [List.drop_append_of_le_length (by simp; omega)]
  rw [e] at h2
  rw [h2, List.append_assoc]

/-- where every chunk is theirs, all is theirs -/
theorem mg_theirs {base ours theirs : List α} (T : Nat → Nat → Nat → Prop)
    (hlast : ∀ i j k, T i j k → chunk (base.drop i) (ours.drop j) (theirs.drop k) = some (theirs.drop k)) :
    ∀ (S : List (Nat × Nat × Nat)), Val3 base ours theirs S →
    (∀ x ∈ S, ∀ i j k, T i j k → i ≤ x.1 → j ≤ x.2.1 → k ≤ x.2.2 → chunk ((base.take x.1).drop i) ((ours.take x.2.1).drop j) ((theirs.take x.2.2).drop k) = some ((theirs.take x.2.2).drop k) ∧ T (x.1 + 1) (x.2.1 + 1) (x.2.2 + 1)) →
    ∀ i j k, Inc3 i j k S → T i j k → mg base ours theirs S i j k = some (theirs.drop k) := by
  intro S
  induction S with
  | nil => intro _ _ i j k _ ht; exact hlast i j k ht
  | cons x S ih =>
    intro hv hc i j k hi ht
    obtain ⟨p, q, r⟩ := x
    obtain ⟨h1, h2, h3, h4⟩ := hi
    obtain ⟨e, ht'⟩ := hc (p, q, r) List.mem_cons_self i j k ht h1 h2 h3
    obtain ⟨v, v1, v2, v3⟩ := hv (p, q, r) List.mem_cons_self
    simp only at e v1 v2 v3
    simp only [mg]
    rw [e]
    simp only
    rw [ih (fun y hy => hv y (List.mem_cons_of_mem _ hy)) (fun y hy => hc y (List.mem_cons_of_mem _ hy)) _ _ _ h4 ht', v1]
    simp only [Option.map_some, Option.toList_some]
    rw [piece theirs h3 v3]

theorem mt_diag (a : List α) : ∀ i k, ∀ x ∈ mt a a i k, x.1 + k = x.2 + i := by
  induction a with
  | nil => intro i k x hx; cases hx
  | cons y ys ih =>
    intro i k x hx
    rw [mt_eq] at hx
    rcases List.mem_cons.1 hx with rfl | hx
    · simp; omega
    · have := ih _ _ x hx; omega

theorem mrg_base (base theirs : List α) : mrg base base theirs = some theirs := by
  unfold mrg
  rw [mg_theirs (fun i j _ => i = j) (fun i j k h => by subst h; exact chunk_base _ _) _ (stabOf_val _ _ _) ?_ 0 0 0 (stabOf_inc _ _ _) rfl, List.drop_zero]
  intro x hx i j k h _ _ _
  obtain ⟨p, q, r⟩ := x
  have := mt_diag base 0 0 _ (stab_mem hx).1
  simp only at this
  have e : p = q := by omega
  subst e
  subst h
  exact ⟨chunk_base _ _, rfl⟩
theorem mrg_base' (base ours : List α) : mrg base ours base = some ours := by rw [mrg_comm, mrg_base]
theorem mrg_both (base ours : List α) : mrg base ours ours = some ours := by
  unfold mrg
  rw [mg_theirs (fun _ j k => j = k) (fun i j k h => by subst h; exact chunk_both _ _) _ (stabOf_val _ _ _) ?_ 0 0 0 (stabOf_inc _ _ _) rfl, List.drop_zero]
  intro x hx i j k h _ _ _
  obtain ⟨p, q, r⟩ := x
  obtain ⟨a, b⟩ := stab_mem hx
  have e : q = r := by have := asg_of_mem (mt_inc base ours 0 0) a; rw [asg_of_mem (mt_inc base ours 0 0) b] at this; injection this with h; exact h.symm
  subst e
  subst h
  exact ⟨chunk_both _ _, rfl⟩

/-! the elements of the result -/
theorem chunk_sub {b o t c : List α} (h : chunk b o t = some c) : c = o ∨ c = t := by
  unfold chunk at h
  split at h
  · injection h with h; exact .inr h.symm
  · split at h
    · injection h with h; exact .inl h.symm
    · cases h
theorem mg_elems {base ours theirs : List α} (S : List (Nat × Nat × Nat)) (hv : Val3 base ours theirs S) : ∀ i j k l, mg base ours theirs S i j k = some l →
    (∀ x ∈ l, x ∈ ours ∨ x ∈ theirs) ∧ ∀ y ∈ S, ∀ v, base[y.1]? = some v → v ∈ l := by
  induction S with
  | nil =>
    intro i j k l h
    refine ⟨fun x hx => ?_, fun y hy => by cases hy⟩
    rcases chunk_sub h with rfl | rfl
    · exact .inl (List.mem_of_mem_drop hx)
    · exact .inr (List.mem_of_mem_drop hx)
  | cons x S ih =>
    intro i j k l h
    obtain ⟨p, q, r⟩ := x
    simp only [mg] at h
    cases hc : chunk ((base.take p).drop i) ((ours.take q).drop j) ((theirs.take r).drop k) with
    | none => rw [hc] at h; cases h
    | some c =>
      rw [hc] at h
      simp only [Option.map_eq_some_iff] at h
      obtain ⟨m, hm, rfl⟩ := h
      obtain ⟨i1, i2⟩ := ih (fun y hy => hv y (List.mem_cons_of_mem _ hy)) _ _ _ m hm
      obtain ⟨v, v1, v2, v3⟩ := hv (p, q, r) List.mem_cons_self
      simp only at v1 v2 v3
      rw [v1]
      constructor
      · intro x hx
        rcases List.mem_append.1 hx with hx | hx
        · rcases List.mem_append.1 hx with hx | hx
          · rcases chunk_sub hc with rfl | rfl
            · exact .inl (List.mem_of_mem_take (List.mem_of_mem_drop hx))
            · exact .inr (List.mem_of_mem_take (List.mem_of_mem_drop hx))
          · simp only [Option.toList_some, List.mem_singleton] at hx
            subst hx
            exact .inl (List.mem_of_getElem? v2)
        · exact i1 x hx
      · intro y hy u hu
        rcases List.mem_cons.1 hy with rfl | hy
        · simp only at hu
          rw [v1] at hu
          injection hu with hu
          subst hu
          simp
        · exact List.mem_append_right _ (i2 y hy u hu)
theorem mrg_elems {base ours theirs l : List α} (h : mrg base ours theirs = some l) : ∀ x ∈ l, x ∈ ours ∨ x ∈ theirs := (mg_elems _ (stabOf_val _ _ _) 0 0 0 l h).1

/-- an element that the base has once, and that is in both common subsequences, is there -/
theorem mrg_once {base ours theirs l : List α} (h : mrg base ours theirs = some l) {i : Nat} {v : α} (hi : base[i]? = some v) (once : ∀ j, base[j]? = some v → j = i)
    (hx : v ∈ com base ours) (hy : v ∈ com base theirs) : v ∈ l := by
  rw [com_def] at hx hy
  obtain ⟨⟨p, q⟩, hp, ep⟩ := List.mem_filterMap.1 hx
  obtain ⟨⟨p', r⟩, hp', ep'⟩ := List.mem_filterMap.1 hy
  have e1 := once p ep
  have e2 := once p' ep'
  subst e1
  subst e2
  have hm : (p', q, r) ∈ stabOf base ours theirs := by
    unfold stabOf stab
    refine List.mem_filterMap.2 ⟨(p', q), hp, ?_⟩
    rw [asg_of_mem (mt_inc _ _ 0 0) hp']; rfl
  exact (mg_elems _ (stabOf_val _ _ _) 0 0 0 l h).2 _ hm v hi
end
end Go.Proofs.Ytkklpmfjbkapiaa.Sq
