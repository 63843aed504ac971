/- PLAIN LAWS OF MAPS OF OBJECTS: order, look-ups, putting, dropping, differences, patches. No program is spoken of here. -/
import Derived.Test.YtlejeelmlclnkaaGreatDoorProg
import Derived.Lib.Hide
set_option linter.unusedSimpArgs false
set_option linter.unusedVariables false
namespace Go.Proofs.YtlejeelmlclnkaaGreatDoor.At
abbrev T := List UInt8
def lt (a b : T) : Bool := Op.bytesLess a b
theorem lt_irrefl : ∀ a : T, lt a a = false
  | [] => rfl
  | x :: a => by
    have := lt_irrefl a
    unfold lt at this ⊢
    simp [Op.bytesLess, this]
theorem lt_trans : ∀ {a b c : T}, lt a b = true → lt b c = true → lt a c = true
  | _, [], _, h, _ => by unfold lt at h; simp [Op.bytesLess] at h
  | _, _, [], _, h => by unfold lt at h; simp [Op.bytesLess] at h
  | [], _ :: _, _ :: _, _, _ => rfl
  | x :: a, y :: b, z :: c, h, k => by
    have ih := @lt_trans a b c
    unfold lt at h k ih ⊢
    simp only [Op.bytesLess, Bool.or_eq_true, Bool.and_eq_true, decide_eq_true_eq, beq_iff_eq] at h k ⊢
    rcases h with h | ⟨rfl, h⟩
    · rcases k with k | ⟨rfl, k⟩
      · exact .inl (UInt8.lt_trans h k)
      · exact .inl h
    · rcases k with k | ⟨rfl, k⟩
      · exact .inl k
      · exact .inr ⟨rfl, ih h k⟩
theorem lt_total : ∀ {a b : T}, a ≠ b → lt a b = true ∨ lt b a = true
  | [], [], h => absurd rfl h
  | [], _ :: _, _ => .inl rfl
  | _ :: _, [], _ => .inr rfl
  | x :: a, y :: b, h => by
    have ih := @lt_total a b
    unfold lt at ih ⊢
    simp only [Op.bytesLess, Bool.or_eq_true, Bool.and_eq_true, decide_eq_true_eq, beq_iff_eq]
    by_cases e : x = y
    · subst e
      rcases ih (fun e => h (by rw [e])) with h | h
      · exact .inl (.inr ⟨rfl, h⟩)
      · exact .inr (.inr ⟨rfl, h⟩)
    · have : x.toNat ≠ y.toNat := fun h => e (UInt8.toNat_inj.1 h)
      rcases Nat.lt_or_gt_of_ne this with h | h
      · exact .inl (.inl (UInt8.lt_iff_toNat_lt.2 h))
      · exact .inr (.inl (UInt8.lt_iff_toNat_lt.2 h))
theorem lt_asymm {a b : T} (h : lt a b = true) : lt b a = false := by
  cases k : lt b a
  · rfl
  · have := lt_trans h k; rw [lt_irrefl] at this; cases this
theorem lt_ne {a b : T} (h : lt a b = true) : a ≠ b := fun e => by rw [e, lt_irrefl] at h; cases h
theorem lt_nil (a : T) : lt a [] = false := by cases a <;> rfl
theorem nil_lt {a : T} (h : a ≠ []) : lt [] a = true := by cases a with | nil => exact absurd rfl h | cons _ _ => rfl

/-! ### names, tags, objects -/
def letterB (c : UInt8) : Bool := (decide (97 ≤ c) && decide (c ≤ 122)) || (decide (65 ≤ c) && decide (c ≤ 90))
def tailB (c : UInt8) : Bool := letterB c || (decide (48 ≤ c) && decide (c ≤ 57)) || decide (c = 95)
def nameB : T → Bool
  | [] => false
  | c :: r => letterB c && r.all tailB && decide (r.length + 1 ≤ 24)
def tagsFrom : T → List (T × T) → Bool
  | _, [] => true
  | last, t :: l => nameB t.1 && lt last t.1 && decide (t.2 ≠ []) && decide (t.2.length ≤ 200) && tagsFrom t.1 l
def tagsB (l : List (T × T)) : Bool := tagsFrom [] l && decide (l.length ≤ 60)
structure Ob where
  id : T
  kind : Int
  x : Int
  y : Int
  refs : List T
  tags : List (T × T)
def zeroOb : Ob := ⟨[], 0, 0, 0, [], []⟩
def refsFrom (kind : Int) : T → List T → List T → Bool
  | _, _, [] => true
  | last, seen, s :: l => !(decide (kind = 2) && decide (s = last) || decide (kind = 3) && decide (s ∈ seen)) && nameB s && refsFrom kind s (s :: seen) l
def leastF (kind : Int) : Nat := if kind = 2 then 2 else if kind = 3 then 3 else if kind = 4 then 1 else if kind = 5 then 3 else 0
def onB (x y : Int) : Bool := decide (0 ≤ x) && decide (x < 1048576) && decide (0 ≤ y) && decide (y < 1048576)
def zeroAt (o : Ob) : Bool := decide (o.x = 0) && decide (o.y = 0)
def kindB (kind : Int) : Bool := decide (1 ≤ kind) && decide (kind ≤ 5)
def formB (o : Ob) : Bool := if o.kind = 1 then decide (o.refs.length = 0) && onB o.x o.y else if o.kind = 5 then decide (o.refs.length = 3) && zeroAt o else zeroAt o
def validO (o : Ob) : Bool :=
  kindB o.kind && nameB o.id && tagsB o.tags && decide (leastF o.kind ≤ o.refs.length) && decide (o.refs.length ≤ 2000) && refsFrom o.kind [] [] o.refs && formB o
def sameO (a b : Ob) : Bool := decide (a.id = b.id) && decide (a.kind = b.kind) && decide (a.x = b.x) && decide (a.y = b.y) && decide (a.refs = b.refs) && decide (a.tags = b.tags)
theorem sameO_iff {a b : Ob} : sameO a b = true ↔ a = b := by
  unfold sameO
  obtain ⟨a1, a2, a3, a4, a5, a6⟩ := a
  obtain ⟨b1, b2, b3, b4, b5, b6⟩ := b
  simp only [Bool.and_eq_true, decide_eq_true_eq, Ob.mk.injEq]
  exact ⟨fun ⟨⟨⟨⟨⟨h1, h2⟩, h3⟩, h4⟩, h5⟩, h6⟩ => ⟨h1, h2, h3, h4, h5, h6⟩, fun ⟨h1, h2, h3, h4, h5, h6⟩ => ⟨⟨⟨⟨⟨h1, h2⟩, h3⟩, h4⟩, h5⟩, h6⟩⟩
theorem sameO_refl (a : Ob) : sameO a a = true := sameO_iff.2 rfl
theorem sameO_ne {a b : Ob} (h : a ≠ b) : sameO a b = false := by
  cases k : sameO a b
  · rfl
  · exact absurd (sameO_iff.1 k) h
def sameL : List Ob → List Ob → Bool
  | [], [] => true
  | a :: l, b :: m => sameO a b && sameL l m
  | _, _ => false
theorem sameL_iff : ∀ {a b : List Ob}, sameL a b = true ↔ a = b
  | [], [] => by simp [sameL]
  | [], _ :: _ => by simp [sameL]
  | _ :: _, [] => by simp [sameL]
  | a :: l, b :: m => by
    rw [sameL, Bool.and_eq_true, sameO_iff, sameL_iff, List.cons.injEq]

/-! ### order -/
def Srt (l : List Ob) : Prop := l.Pairwise fun a b => lt a.id b.id = true
def validFrom : T → List Ob → Bool
  | _, [] => true
  | last, o :: l => validO o && lt last o.id && validFrom o.id l
def validM (l : List Ob) : Bool := validFrom [] l && decide (l.length ≤ 1000000)
theorem validFrom_iff : ∀ {l : List Ob} {last : T}, validFrom last l = true ↔ Srt l ∧ ∀ o ∈ l, validO o = true ∧ lt last o.id = true
  | [], _ => by simp [validFrom, Srt]
  | o :: l, last => by
    unfold Srt
    rw [validFrom, Bool.and_eq_true, Bool.and_eq_true, validFrom_iff (l := l), List.pairwise_cons]
    constructor
    · rintro ⟨⟨h1, h2⟩, h3, h4⟩
      refine ⟨⟨fun b hb => (h4 b hb).2, h3⟩, fun x hx => ?_⟩
      rcases List.mem_cons.1 hx with rfl | hx
      · exact ⟨h1, h2⟩
      · exact ⟨(h4 x hx).1, lt_trans h2 (h4 x hx).2⟩
    · rintro ⟨⟨h1, h2⟩, h3⟩
      exact ⟨⟨(h3 o (by simp)).1, (h3 o (by simp)).2⟩, h2, fun x hx => ⟨(h3 x (by simp [hx])).1, h1 x hx⟩⟩
theorem name_ne {s : T} (h : nameB s = true) : s ≠ [] := by rintro rfl; cases h
theorem valid_name {o : Ob} (h : validO o = true) : nameB o.id = true := by
  unfold validO at h
  simp only [Bool.and_eq_true] at h
  exact h.1.1.1.1.1.2
theorem valid_id {o : Ob} (h : validO o = true) : o.id ≠ [] := name_ne (valid_name h)
theorem validM_iff {l : List Ob} : validM l = true ↔ Srt l ∧ (∀ o ∈ l, validO o = true) ∧ l.length ≤ 1000000 := by
  unfold validM
  rw [Bool.and_eq_true, validFrom_iff, decide_eq_true_eq]
  exact ⟨fun ⟨⟨h1, h2⟩, h3⟩ => ⟨h1, fun o ho => (h2 o ho).1, h3⟩, fun ⟨h1, h2, h3⟩ => ⟨⟨h1, fun o ho => ⟨h2 o ho, nil_lt (valid_id (h2 o ho))⟩⟩, h3⟩⟩
def look (l : List Ob) (id : T) : Option Ob := l.find? fun o => decide (o.id = id)
theorem look_id {l : List Ob} {id : T} {o : Ob} (h : look l id = some o) : o.id = id := by
  have := List.find?_some h; simpa using this
theorem look_mem {l : List Ob} {id : T} {o : Ob} (h : look l id = some o) : o ∈ l := List.mem_of_find?_eq_some h
theorem srt_unique : ∀ {l : List Ob}, Srt l → ∀ {a b : Ob}, a ∈ l → b ∈ l → a.id = b.id → a = b
  | [], _, a, _, ha, _, _ => by cases ha
  | o :: l, h, a, b, ha, hb, e => by
    have h := List.pairwise_cons.1 h
    rcases List.mem_cons.1 ha with e1 | h1
    · rcases List.mem_cons.1 hb with e2 | h2
      · rw [e1, e2]
      · exact absurd (e1 ▸ e) (lt_ne (h.1 b h2))
    · rcases List.mem_cons.1 hb with e2 | h2
      · exact absurd (e2 ▸ e).symm (lt_ne (h.1 a h1))
      · exact srt_unique h.2 h1 h2 e
theorem look_of_mem {l : List Ob} (h : Srt l) {o : Ob} (ho : o ∈ l) : look l o.id = some o := by
  cases k : look l o.id with
  | none =>
    unfold look at k
    rw [List.find?_eq_none] at k
    have := k o ho
    simp at this
  | some b => rw [srt_unique h (look_mem k) ho (look_id k)]
theorem look_none {l : List Ob} {id : T} : look l id = none ↔ ∀ o ∈ l, o.id ≠ id := by
  unfold look
  rw [List.find?_eq_none]
  simp
theorem look_iff {l : List Ob} (h : Srt l) {id : T} {o : Ob} : look l id = some o ↔ o ∈ l ∧ o.id = id := by
  constructor
  · exact fun k => ⟨look_mem k, look_id k⟩
  · rintro ⟨k, rfl⟩; exact look_of_mem h k
theorem srt_ext : ∀ {a b : List Ob}, Srt a → Srt b → (∀ o, o ∈ a ↔ o ∈ b) → a = b
  | [], [], _, _, _ => rfl
  | [], y :: b, _, _, h => by have := (h y).2 (by simp); cases this
  | x :: a, [], _, _, h => by have := (h x).1 (by simp); cases this
  | x :: a, y :: b, ha, hb, h => by
    have ha' := List.pairwise_cons.1 ha
    have hb' := List.pairwise_cons.1 hb
    have e : x = y := by
      rcases List.mem_cons.1 ((h x).1 (by simp)) with e | h1
      · exact e
      · rcases List.mem_cons.1 ((h y).2 (by simp)) with e | h2
        · exact e.symm
        · have := lt_trans (ha'.1 y h2) (hb'.1 x h1)
          rw [lt_irrefl] at this; cases this
    subst e
    refine congrArg _ (srt_ext ha'.2 hb'.2 fun o => ?_)
    constructor
    · intro ho
      rcases List.mem_cons.1 ((h o).1 (by simp [ho])) with e | h1
      · subst e; have := ha'.1 o ho; rw [lt_irrefl] at this; cases this
      · exact h1
    · intro ho
      rcases List.mem_cons.1 ((h o).2 (by simp [ho])) with e | h1
      · subst e; have := hb'.1 o ho; rw [lt_irrefl] at this; cases this
      · exact h1
theorem look_ext {a b : List Ob} (ha : Srt a) (hb : Srt b) (h : ∀ id, look a id = look b id) : a = b :=
  srt_ext ha hb fun o => by
    constructor
    · intro ho
      have := look_of_mem ha ho
      rw [h] at this
      exact look_mem this
    · intro ho
      have := look_of_mem hb ho
      rw [← h] at this
      exact look_mem this
/-! ### the place of an Id -/
def pos (l : List Ob) (id : T) : Nat := (l.filter fun o => lt o.id id).length
def has (l : List Ob) (id : T) : Bool := (look l id).isSome
def below (l : List Ob) (id : T) : List Ob := l.filter fun o => lt o.id id
def above (l : List Ob) (id : T) : List Ob := l.filter fun o => lt id o.id
theorem pos_le (l : List Ob) (id : T) : pos l id ≤ l.length := List.length_filter_le _ _
theorem srt_sub {l m : List Ob} (h : Srt l) (hs : m.Sublist l) : Srt m := List.Pairwise.sublist hs h
theorem srt_drop {l : List Ob} (h : Srt l) (k : Nat) : Srt (l.drop k) := srt_sub h (List.drop_sublist _ _)
theorem above_all {l : List Ob} {id : T} (h : ∀ o ∈ l, lt id o.id = true) : below l id = [] ∧ above l id = l ∧ look l id = none := by
  refine ⟨?_, ?_, ?_⟩
  · unfold below
    rw [List.filter_eq_nil_iff]
    intro o ho
    simp [lt_asymm (h o ho)]
  · unfold above
    rw [List.filter_eq_self]
    exact h
  · rw [look_none]
    intro o ho e
    exact lt_ne (h o ho) e.symm
/-- a list in order is what is below, what has the Id, and what is above -/
theorem parts : ∀ {l : List Ob}, Srt l → ∀ id : T, l = below l id ++ ((look l id).toList ++ above l id)
  | [], _, _ => rfl
  | o :: l, h, id => by
    have h' := List.pairwise_cons.1 h
    by_cases e : o.id = id
    · subst e
      obtain ⟨h1, h2, h3⟩ := above_all h'.1
      unfold below above look at *
      rw [List.filter_cons_of_neg (by simp [lt_irrefl]), List.find?_cons_of_pos (by simp), List.filter_cons_of_neg (by simp [lt_irrefl]), h1, h2]
      rfl
    · rcases lt_total e with k | k
      · have ih := parts h'.2 id
        unfold below above look at *
        rw [List.filter_cons_of_pos (by simpa using k), List.find?_cons_of_neg (by simpa using e), List.filter_cons_of_neg (by simp [lt_asymm k]), List.cons_append, ← ih]
      · have hall : ∀ x ∈ o :: l, lt id x.id = true := fun x hx => by
          rcases List.mem_cons.1 hx with rfl | hx
          · exact k
          · exact lt_trans k (h'.1 x hx)
        obtain ⟨h1, h2, h3⟩ := above_all hall
        rw [h1, h2, h3]; rfl
theorem take_pos {l : List Ob} (h : Srt l) (id : T) : l.take (pos l id) = below l id := by
  rw [show l.take (pos l id) = (below l id ++ ((look l id).toList ++ above l id)).take (pos l id) from congrArg _ (parts h id)]
  exact List.take_left' rfl
theorem drop_pos {l : List Ob} (h : Srt l) (id : T) : l.drop (pos l id) = (look l id).toList ++ above l id := by
  rw [show l.drop (pos l id) = (below l id ++ ((look l id).toList ++ above l id)).drop (pos l id) from congrArg _ (parts h id)]
  exact List.drop_left' rfl
theorem get_pos {l : List Ob} (h : Srt l) {id : T} {o : Ob} (hl : look l id = some o) : ∃ hp : pos l id < l.length, l[pos l id] = o := by
  have hd := drop_pos h id
  rw [hl] at hd
  have h0 : (l.drop (pos l id))[0]? = some o := by rw [hd]; rfl
  rw [List.getElem?_drop, Nat.add_zero] at h0
  obtain ⟨hp, e⟩ := List.getElem?_eq_some_iff.1 h0
  exact ⟨hp, e⟩
theorem drop_pos1 {l : List Ob} (h : Srt l) {id : T} {o : Ob} (hl : look l id = some o) : l.drop (pos l id + 1) = above l id := by
  have hd := drop_pos h id
  rw [hl] at hd
  rw [← List.drop_drop, hd]; rfl
theorem pos_split {l : List Ob} (h : Srt l) {id : T} {i : Nat} (hi : i < l.length) : lt l[i].id id = true ↔ i < pos l id := by
  have hp := parts h id
  constructor
  · intro k
    rcases Nat.lt_or_ge i (pos l id) with h1 | h1
    · exact h1
    · have hm : l[i] ∈ l.drop (pos l id) := by
        rw [List.mem_iff_getElem]
        exact ⟨i - pos l id, by rw [List.length_drop]; omega, by rw [List.getElem_drop]; congr 1; omega⟩
      rw [drop_pos h, List.mem_append] at hm
      rcases hm with hm | hm
      · have := look_id (Option.mem_toList.1 hm)
        rw [this, lt_irrefl] at k; cases k
      · have := (List.mem_filter.1 hm).2
        rw [lt_asymm k] at this; cases this
  · intro k
    have hm : l[i] ∈ l.take (pos l id) := by
      rw [List.mem_iff_getElem]
      exact ⟨i, by rw [List.length_take]; omega, by rw [List.getElem_take]⟩
    rw [take_pos h] at hm
    exact (List.mem_filter.1 hm).2
/-! ### put, drop -/
def putF (l : List Ob) (o : Ob) : List Ob := below l o.id ++ o :: above l o.id
def dropF (l : List Ob) (id : T) : List Ob := below l id ++ above l id
theorem mem_below {l : List Ob} {id : T} {o : Ob} : o ∈ below l id ↔ o ∈ l ∧ lt o.id id = true := List.mem_filter
theorem mem_above {l : List Ob} {id : T} {o : Ob} : o ∈ above l id ↔ o ∈ l ∧ lt id o.id = true := List.mem_filter
theorem srt_put {l : List Ob} (h : Srt l) (o : Ob) : Srt (putF l o) := by
  unfold putF Srt
  rw [List.pairwise_append]
  refine ⟨srt_sub h List.filter_sublist, List.pairwise_cons.2 ⟨fun b hb => (mem_above.1 hb).2, srt_sub h List.filter_sublist⟩, fun a ha b hb => ?_⟩
  have ha := (mem_below.1 ha).2
  rcases List.mem_cons.1 hb with rfl | hb
  · exact ha
  · exact lt_trans ha (mem_above.1 hb).2
theorem srt_dropF {l : List Ob} (h : Srt l) (id : T) : Srt (dropF l id) := by
  unfold dropF Srt
  rw [List.pairwise_append]
  exact ⟨srt_sub h List.filter_sublist, srt_sub h List.filter_sublist, fun a ha b hb => lt_trans (mem_below.1 ha).2 (mem_above.1 hb).2⟩
theorem mem_put {l : List Ob} {o x : Ob} : x ∈ putF l o ↔ x = o ∨ (x ∈ l ∧ x.id ≠ o.id) := by
  unfold putF
  rw [List.mem_append, List.mem_cons, mem_below, mem_above]
  constructor
  · rintro (⟨h1, h2⟩ | h | ⟨h1, h2⟩)
    · exact .inr ⟨h1, lt_ne h2⟩
    · exact .inl h
    · exact .inr ⟨h1, (lt_ne h2).symm⟩
  · rintro (h | ⟨h1, h2⟩)
    · exact .inr (.inl h)
    · rcases lt_total h2 with h | h
      · exact .inl ⟨h1, h⟩
      · exact .inr (.inr ⟨h1, h⟩)
theorem mem_dropF {l : List Ob} {id : T} {x : Ob} : x ∈ dropF l id ↔ x ∈ l ∧ x.id ≠ id := by
  unfold dropF
  rw [List.mem_append, mem_below, mem_above]
  constructor
  · rintro (⟨h1, h2⟩ | ⟨h1, h2⟩)
    · exact ⟨h1, lt_ne h2⟩
    · exact ⟨h1, (lt_ne h2).symm⟩
  · rintro ⟨h1, h2⟩
    rcases lt_total h2 with h | h
    · exact .inl ⟨h1, h⟩
    · exact .inr ⟨h1, h⟩
theorem look_put {l : List Ob} (h : Srt l) (o : Ob) (id : T) : look (putF l o) id = if id = o.id then some o else look l id := by
  split
  · rename_i e
    rw [look_iff (srt_put h o)]
    exact ⟨mem_put.2 (.inl rfl), e.symm⟩
  · rename_i e
    cases k : look l id with
    | none =>
      rw [look_none] at k ⊢
      intro x hx
      rcases mem_put.1 hx with rfl | ⟨hx, _⟩
      · exact fun e' => e e'.symm
      · exact k x hx
    | some z =>
      rw [look_iff (srt_put h o)]
      refine ⟨mem_put.2 (.inr ⟨look_mem k, ?_⟩), look_id k⟩
      rw [look_id k]; exact e
theorem look_dropF {l : List Ob} (h : Srt l) (id' id : T) : look (dropF l id') id = if id = id' then none else look l id := by
  split
  · rename_i e
    rw [look_none]
    intro x hx
    rw [e]
    exact (mem_dropF.1 hx).2
  · rename_i e
    cases k : look l id with
    | none =>
      rw [look_none] at k ⊢
      exact fun x hx => k x (mem_dropF.1 hx).1
    | some z =>
      rw [look_iff (srt_dropF h id')]
      exact ⟨mem_dropF.2 ⟨look_mem k, by rw [look_id k]; exact e⟩, look_id k⟩
/-- as the code builds them -/
theorem put_pos_has {l : List Ob} (h : Srt l) {o z : Ob} (hl : look l o.id = some z) : putF l o = l.set (pos l o.id) o := by
  obtain ⟨hp, e⟩ := get_pos h hl
  unfold putF
  rw [← take_pos h, ← drop_pos1 h hl, List.set_eq_take_append_cons_drop, if_pos hp]
theorem put_pos_new {l : List Ob} (h : Srt l) {o : Ob} (hl : look l o.id = none) : putF l o = l.take (pos l o.id) ++ o :: l.drop (pos l o.id) := by
  unfold putF
  rw [take_pos h, drop_pos h, hl]; rfl
theorem drop_pos_has {l : List Ob} (h : Srt l) {id : T} {z : Ob} (hl : look l id = some z) : dropF l id = l.take (pos l id) ++ l.drop (pos l id + 1) := by
  unfold dropF
  rw [take_pos h, drop_pos1 h hl]
theorem drop_none {l : List Ob} (h : Srt l) {id : T} (hl : look l id = none) : dropF l id = l := by
  refine look_ext (srt_dropF h id) h fun x => ?_
  rw [look_dropF h]
  split
  · rename_i e; rw [e, hl]
  · rfl
theorem length_put_new {l : List Ob} (h : Srt l) {o : Ob} (hl : look l o.id = none) : (putF l o).length = l.length + 1 := by
  rw [put_pos_new h hl, List.length_append, List.length_cons, List.length_take, List.length_drop]
  have := pos_le l o.id
  omega
theorem length_put_has {l : List Ob} (h : Srt l) {o z : Ob} (hl : look l o.id = some z) : (putF l o).length = l.length := by
  rw [put_pos_has h hl, List.length_set]
theorem length_put_le {l : List Ob} (h : Srt l) (o : Ob) : (putF l o).length ≤ l.length + 1 := by
  cases k : look l o.id with
  | none => rw [length_put_new h k]; omega
  | some z => rw [length_put_has h k]; omega
end Go.Proofs.YtlejeelmlclnkaaGreatDoor.At
