/- PLAIN LAWS OF MAPS OF OBJECTS: order, look-ups, putting, dropping, differences, patches. No program is spoken of here. | PLAIN LAWS OF DIFFERENCES AND PATCHES. No program is spoken of here. | PLAIN LAWS OF DIGESTS: mixing is one to one; blocks; digits; lists. No program is spoken of here. -/
import Derived.Test.YtniklmikdkjgiaaGreatDoorProg
import Derived.Lib.Hide
import Derived.Below
set_option linter.unusedSimpArgs false
set_option linter.unusedVariables false
namespace Go.Proofs.YtniklmikdkjgiaaGreatDoor.At
abbrev T := List UInt8
def lt (a b : T) : Bool := Op.bytesLess a b
theorem lt_irrefl : ∀ a : T, lt a a = false
  | [] => rfl
  | x :: a => by
    have := lt_irrefl a
    unfold lt at this ⊢
    simp [Op.bytesLess, this]
theorem lt_trans : ∀ {a b c : T}, lt a b = true → lt b c = true → lt a c = true
  | _, [], _, h, _ => by unfold lt at h; simp [Op.bytesLess] at h
  | _, _, [], _, h => by unfold lt at h; simp [Op.bytesLess] at h
  | [], _ :: _, _ :: _, _, _ => rfl
  | x :: a, y :: b, z :: c, h, k => by
    have ih := @lt_trans a b c
    unfold lt at h k ih ⊢
    simp only [Op.bytesLess, Bool.or_eq_true, Bool.and_eq_true, decide_eq_true_eq, beq_iff_eq] at h k ⊢
    rcases h with h | ⟨rfl, h⟩
    · rcases k with k | ⟨rfl, k⟩
      · exact .inl (UInt8.lt_trans h k)
      · exact .inl h
    · rcases k with k | ⟨rfl, k⟩
      · exact .inl k
      · exact .inr ⟨rfl, ih h k⟩
theorem lt_total : ∀ {a b : T}, a ≠ b → lt a b = true ∨ lt b a = true
  | [], [], h => absurd rfl h
  | [], _ :: _, _ => .inl rfl
  | _ :: _, [], _ => .inr rfl
  | x :: a, y :: b, h => by
    have ih := @lt_total a b
    unfold lt at ih ⊢
    simp only [Op.bytesLess, Bool.or_eq_true, Bool.and_eq_true, decide_eq_true_eq, beq_iff_eq]
    by_cases e : x = y
    · subst e
      rcases ih (fun e => h (by rw [e])) with h | h
      · exact .inl (.inr ⟨rfl, h⟩)
      · exact .inr (.inr ⟨rfl, h⟩)
    · have : x.toNat ≠ y.toNat := fun h => e (UInt8.toNat_inj.1 h)
      rcases Nat.lt_or_gt_of_ne this with h | h
      · exact .inl (.inl (UInt8.lt_iff_toNat_lt.2 h))
      · exact .inr (.inl (UInt8.lt_iff_toNat_lt.2 h))
theorem lt_asymm {a b : T} (h : lt a b = true) : lt b a = false := by
  cases k : lt b a
  · rfl
  · have := lt_trans h k; rw [lt_irrefl] at this; cases this
theorem lt_ne {a b : T} (h : lt a b = true) : a ≠ b := fun e => by rw [e, lt_irrefl] at h; cases h
theorem lt_nil (a : T) : lt a [] = false := by cases a <;> rfl
theorem nil_lt {a : T} (h : a ≠ []) : lt [] a = true := by cases a with | nil => exact absurd rfl h | cons _ _ => rfl

/-! ### names, tags, objects -/
def letterB (c : UInt8) : Bool := (decide (97 ≤ c) && decide (c ≤ 122)) || (decide (65 ≤ c) && decide (c ≤ 90))
def tailB (c : UInt8) : Bool := letterB c || (decide (48 ≤ c) && decide (c ≤ 57)) || decide (c = 95)
def nameB : T → Bool
  | [] => false
  | c :: r => letterB c && r.all tailB && decide (r.length + 1 ≤ 24)
def tagsFrom : T → List (T × T) → Bool
  | _, [] => true
  | last, t :: l => nameB t.1 && lt last t.1 && decide (t.2 ≠ []) && decide (t.2.length ≤ 200) && tagsFrom t.1 l
def tagsB (l : List (T × T)) : Bool := tagsFrom [] l && decide (l.length ≤ 60)
structure Ob where
  id : T
  kind : Int
  x : Int
  y : Int
  refs : List T
  tags : List (T × T)
def zeroOb : Ob := ⟨[], 0, 0, 0, [], []⟩
def refsFrom (kind : Int) : T → List T → List T → Bool
  | _, _, [] => true
  | last, seen, s :: l => !(decide (kind = 2) && decide (s = last) || decide (kind = 3) && decide (s ∈ seen)) && nameB s && refsFrom kind s (s :: seen) l
def leastF (kind : Int) : Nat := if kind = 2 then 2 else if kind = 3 then 3 else if kind = 4 then 1 else if kind = 5 then 3 else 0
def onB (x y : Int) : Bool := decide (0 ≤ x) && decide (x < 1048576) && decide (0 ≤ y) && decide (y < 1048576)
def zeroAt (o : Ob) : Bool := decide (o.x = 0) && decide (o.y = 0)
def kindB (kind : Int) : Bool := decide (1 ≤ kind) && decide (kind ≤ 5)
def formB (o : Ob) : Bool := if o.kind = 1 then decide (o.refs.length = 0) && onB o.x o.y else if o.kind = 5 then decide (o.refs.length = 3) && zeroAt o else zeroAt o
def validO (o : Ob) : Bool :=
  kindB o.kind && nameB o.id && tagsB o.tags && decide (leastF o.kind ≤ o.refs.length) && decide (o.refs.length ≤ 2000) && refsFrom o.kind [] [] o.refs && formB o
def sameO (a b : Ob) : Bool := decide (a.id = b.id) && decide (a.kind = b.kind) && decide (a.x = b.x) && decide (a.y = b.y) && decide (a.refs = b.refs) && decide (a.tags = b.tags)
theorem sameO_iff {a b : Ob} : sameO a b = true ↔ a = b := by
  unfold sameO
  obtain ⟨a1, a2, a3, a4, a5, a6⟩ := a
  obtain ⟨b1, b2, b3, b4, b5, b6⟩ := b
  simp only [Bool.and_eq_true, decide_eq_true_eq, Ob.mk.injEq]
  exact ⟨fun ⟨⟨⟨⟨⟨h1, h2⟩, h3⟩, h4⟩, h5⟩, h6⟩ => ⟨h1, h2, h3, h4, h5, h6⟩, fun ⟨h1, h2, h3, h4, h5, h6⟩ => ⟨⟨⟨⟨⟨h1, h2⟩, h3⟩, h4⟩, h5⟩, h6⟩⟩
theorem sameO_refl (a : Ob) : sameO a a = true := sameO_iff.2 rfl
theorem sameO_ne {a b : Ob} (h : a ≠ b) : sameO a b = false := by
  cases k : sameO a b
  · rfl
  · exact absurd (sameO_iff.1 k) h
def sameL : List Ob → List Ob → Bool
  | [], [] => true
  | a :: l, b :: m => sameO a b && sameL l m
  | _, _ => false
theorem sameL_iff : ∀ {a b : List Ob}, sameL a b = true ↔ a = b
  | [], [] => by simp [sameL]
  | [], _ :: _ => by simp [sameL]
  | _ :: _, [] => by simp [sameL]
  | a :: l, b :: m => by
    rw [sameL, Bool.and_eq_true, sameO_iff, sameL_iff, List.cons.injEq]

/-! ### order -/
def Srt (l : List Ob) : Prop := l.Pairwise fun a b => lt a.id b.id = true
def validFrom : T → List Ob → Bool
  | _, [] => true
  | last, o :: l => validO o && lt last o.id && validFrom o.id l
def validM (l : List Ob) : Bool := validFrom [] l && decide (l.length ≤ 1000000)
theorem validFrom_iff : ∀ {l : List Ob} {last : T}, validFrom last l = true ↔ Srt l ∧ ∀ o ∈ l, validO o = true ∧ lt last o.id = true
  | [], _ => by simp [validFrom, Srt]
  | o :: l, last => by
    unfold Srt
    rw [validFrom, Bool.and_eq_true, Bool.and_eq_true, validFrom_iff (l := l), List.pairwise_cons]
    constructor
    · rintro ⟨⟨h1, h2⟩, h3, h4⟩
      refine ⟨⟨fun b hb => (h4 b hb).2, h3⟩, fun x hx => ?_⟩
      rcases List.mem_cons.1 hx with rfl | hx
      · exact ⟨h1, h2⟩
      · exact ⟨(h4 x hx).1, lt_trans h2 (h4 x hx).2⟩
    · rintro ⟨⟨h1, h2⟩, h3⟩
      exact ⟨⟨(h3 o (by simp)).1, (h3 o (by simp)).2⟩, h2, fun x hx => ⟨(h3 x (by simp [hx])).1, h1 x hx⟩⟩
theorem name_ne {s : T} (h : nameB s = true) : s ≠ [] := by rintro rfl; cases h
theorem valid_name {o : Ob} (h : validO o = true) : nameB o.id = true := by
  unfold validO at h
  simp only [Bool.and_eq_true] at h
  exact h.1.1.1.1.1.2
theorem valid_id {o : Ob} (h : validO o = true) : o.id ≠ [] := name_ne (valid_name h)
theorem validM_iff {l : List Ob} : validM l = true ↔ Srt l ∧ (∀ o ∈ l, validO o = true) ∧ l.length ≤ 1000000 := by
  unfold validM
  rw [Bool.and_eq_true, validFrom_iff, decide_eq_true_eq]
  exact ⟨fun ⟨⟨h1, h2⟩, h3⟩ => ⟨h1, fun o ho => (h2 o ho).1, h3⟩, fun ⟨h1, h2, h3⟩ => ⟨⟨h1, fun o ho => ⟨h2 o ho, nil_lt (valid_id (h2 o ho))⟩⟩, h3⟩⟩
def look (l : List Ob) (id : T) : Option Ob := l.find? fun o => decide (o.id = id)
theorem look_id {l : List Ob} {id : T} {o : Ob} (h : look l id = some o) : o.id = id := by
  have := List.find?_some h; simpa using this
theorem look_mem {l : List Ob} {id : T} {o : Ob} (h : look l id = some o) : o ∈ l := List.mem_of_find?_eq_some h
theorem srt_unique : ∀ {l : List Ob}, Srt l → ∀ {a b : Ob}, a ∈ l → b ∈ l → a.id = b.id → a = b
  | [], _, a, _, ha, _, _ => by cases ha
  | o :: l, h, a, b, ha, hb, e => by
    have h := List.pairwise_cons.1 h
    rcases List.mem_cons.1 ha with e1 | h1
    · rcases List.mem_cons.1 hb with e2 | h2
      · rw [e1, e2]
      · exact absurd (e1 ▸ e) (lt_ne (h.1 b h2))
    · rcases List.mem_cons.1 hb with e2 | h2
      · exact absurd (e2 ▸ e).symm (lt_ne (h.1 a h1))
      · exact srt_unique h.2 h1 h2 e
theorem look_of_mem {l : List Ob} (h : Srt l) {o : Ob} (ho : o ∈ l) : look l o.id = some o := by
  cases k : look l o.id with
  | none =>
    unfold look at k
    rw [List.find?_eq_none] at k
    have := k o ho
    simp at this
  | some b => rw [srt_unique h (look_mem k) ho (look_id k)]
theorem look_none {l : List Ob} {id : T} : look l id = none ↔ ∀ o ∈ l, o.id ≠ id := by
  unfold look
  rw [List.find?_eq_none]
  simp
theorem look_iff {l : List Ob} (h : Srt l) {id : T} {o : Ob} : look l id = some o ↔ o ∈ l ∧ o.id = id := by
  constructor
  · exact fun k => ⟨look_mem k, look_id k⟩
  · rintro ⟨k, rfl⟩; exact look_of_mem h k
theorem srt_ext : ∀ {a b : List Ob}, Srt a → Srt b → (∀ o, o ∈ a ↔ o ∈ b) → a = b
  | [], [], _, _, _ => rfl
  | [], y :: b, _, _, h => by have := (h y).2 (by simp); cases this
  | x :: a, [], _, _, h => by have := (h x).1 (by simp); cases this
  | x :: a, y :: b, ha, hb, h => by
    have ha' := List.pairwise_cons.1 ha
    have hb' := List.pairwise_cons.1 hb
    have e : x = y := by
      rcases List.mem_cons.1 ((h x).1 (by simp)) with e | h1
      · exact e
      · rcases List.mem_cons.1 ((h y).2 (by simp)) with e | h2
        · exact e.symm
        · have := lt_trans (ha'.1 y h2) (hb'.1 x h1)
          rw [lt_irrefl] at this; cases this
    subst e
    refine congrArg _ (srt_ext ha'.2 hb'.2 fun o => ?_)
    constructor
    · intro ho
      rcases List.mem_cons.1 ((h o).1 (by simp [ho])) with e | h1
      · subst e; have := ha'.1 o ho; rw [lt_irrefl] at this; cases this
      · exact h1
    · intro ho
      rcases List.mem_cons.1 ((h o).2 (by simp [ho])) with e | h1
      · subst e; have := hb'.1 o ho; rw [lt_irrefl] at this; cases this
      · exact h1
theorem look_ext {a b : List Ob} (ha : Srt a) (hb : Srt b) (h : ∀ id, look a id = look b id) : a = b :=
  srt_ext ha hb fun o => by
    constructor
    · intro ho
      have := look_of_mem ha ho
      rw [h] at this
      exact look_mem this
    · intro ho
      have := look_of_mem hb ho
      rw [← h] at this
      exact look_mem this
/-! ### the place of an Id -/
def pos (l : List Ob) (id : T) : Nat := (l.filter fun o => lt o.id id).length
def has (l : List Ob) (id : T) : Bool := (look l id).isSome
def below (l : List Ob) (id : T) : List Ob := l.filter fun o => lt o.id id
def above (l : List Ob) (id : T) : List Ob := l.filter fun o => lt id o.id
theorem pos_le (l : List Ob) (id : T) : pos l id ≤ l.length := List.length_filter_le _ _
theorem srt_sub {l m : List Ob} (h : Srt l) (hs : m.Sublist l) : Srt m := List.Pairwise.sublist hs h
theorem srt_drop {l : List Ob} (h : Srt l) (k : Nat) : Srt (l.drop k) := srt_sub h (List.drop_sublist _ _)
theorem above_all {l : List Ob} {id : T} (h : ∀ o ∈ l, lt id o.id = true) : below l id = [] ∧ above l id = l ∧ look l id = none := by
  refine ⟨?_, ?_, ?_⟩
  · unfold below
    rw [List.filter_eq_nil_iff]
    intro o ho
    simp [lt_asymm (h o ho)]
  · unfold above
    rw [List.filter_eq_self]
    exact h
  · rw [look_none]
    intro o ho e
    exact lt_ne (h o ho) e.symm
/-- a list in order is what is below, what has the Id, and what is above -/
theorem parts : ∀ {l : List Ob}, Srt l → ∀ id : T, l = below l id ++ ((look l id).toList ++ above l id)
  | [], _, _ => rfl
  | o :: l, h, id => by
    have h' := List.pairwise_cons.1 h
    by_cases e : o.id = id
    · subst e
      obtain ⟨h1, h2, h3⟩ := above_all h'.1
      unfold below above look at *
      rw [List.filter_cons_of_neg (by simp [lt_irrefl]), List.find?_cons_of_pos (by simp), List.filter_cons_of_neg (by simp [lt_irrefl]), h1, h2]
      rfl
    · rcases lt_total e with k | k
      · have ih := parts h'.2 id
        unfold below above look at *
        rw [List.filter_cons_of_pos (by simpa using k), List.find?_cons_of_neg (by simpa using e), List.filter_cons_of_neg (by simp [lt_asymm k]), List.cons_append, ← ih]
      · have hall : ∀ x ∈ o :: l, lt id x.id = true := fun x hx => by
          rcases List.mem_cons.1 hx with rfl | hx
          · exact k
          · exact lt_trans k (h'.1 x hx)
        obtain ⟨h1, h2, h3⟩ := above_all hall
        rw [h1, h2, h3]; rfl
theorem take_pos {l : List Ob} (h : Srt l) (id : T) : l.take (pos l id) = below l id := by
  rw [show l.take (pos l id) = (below l id ++ ((look l id).toList ++ above l id)).take (pos l id) from congrArg _ (parts h id)]
  exact List.take_left' rfl
theorem drop_pos {l : List Ob} (h : Srt l) (id : T) : l.drop (pos l id) = (look l id).toList ++ above l id := by
  rw [show l.drop (pos l id) = (below l id ++ ((look l id).toList ++ above l id)).drop (pos l id) from congrArg _ (parts h id)]
  exact List.drop_left' rfl
theorem get_pos {l : List Ob} (h : Srt l) {id : T} {o : Ob} (hl : look l id = some o) : ∃ hp : pos l id < l.length, l[pos l id] = o := by
  have hd := drop_pos h id
  rw [hl] at hd
  have h0 : (l.drop (pos l id))[0]? = some o := by rw [hd]; rfl
  rw [List.getElem?_drop, Nat.add_zero] at h0
  obtain ⟨hp, e⟩ := List.getElem?_eq_some_iff.1 h0
  exact ⟨hp, e⟩
theorem drop_pos1 {l : List Ob} (h : Srt l) {id : T} {o : Ob} (hl : look l id = some o) : l.drop (pos l id + 1) = above l id := by
  have hd := drop_pos h id
  rw [hl] at hd
  rw [← List.drop_drop, hd]; rfl
theorem pos_split {l : List Ob} (h : Srt l) {id : T} {i : Nat} (hi : i < l.length) : lt l[i].id id = true ↔ i < pos l id := by
  have hp := parts h id
  constructor
  · intro k
    rcases Nat.lt_or_ge i (pos l id) with h1 | h1
    · exact h1
    · have hm : l[i] ∈ l.drop (pos l id) := by
        rw [List.mem_iff_getElem]
        exact ⟨i - pos l id, by rw [List.length_drop]; omega, by rw [List.getElem_drop]; congr 1; omega⟩
      rw [drop_pos h, List.mem_append] at hm
      rcases hm with hm | hm
      · have := look_id (Option.mem_toList.1 hm)
        rw [this, lt_irrefl] at k; cases k
      · have := (List.mem_filter.1 hm).2
        rw [lt_asymm k] at this; cases this
  · intro k
    have hm : l[i] ∈ l.take (pos l id) := by
      rw [List.mem_iff_getElem]
      exact ⟨i, by rw [List.length_take]; omega, by rw [List.getElem_take]⟩
    rw [take_pos h] at hm
    exact (List.mem_filter.1 hm).2
/-! ### put, drop -/
def putF (l : List Ob) (o : Ob) : List Ob := below l o.id ++ o :: above l o.id
def dropF (l : List Ob) (id : T) : List Ob := below l id ++ above l id
theorem mem_below {l : List Ob} {id : T} {o : Ob} : o ∈ below l id ↔ o ∈ l ∧ lt o.id id = true := List.mem_filter
theorem mem_above {l : List Ob} {id : T} {o : Ob} : o ∈ above l id ↔ o ∈ l ∧ lt id o.id = true := List.mem_filter
theorem srt_put {l : List Ob} (h : Srt l) (o : Ob) : Srt (putF l o) := by
  unfold putF Srt
  rw [List.pairwise_append]
  refine ⟨srt_sub h List.filter_sublist, List.pairwise_cons.2 ⟨fun b hb => (mem_above.1 hb).2, srt_sub h List.filter_sublist⟩, fun a ha b hb => ?_⟩
  have ha := (mem_below.1 ha).2
  rcases List.mem_cons.1 hb with rfl | hb
  · exact ha
  · exact lt_trans ha (mem_above.1 hb).2
theorem srt_dropF {l : List Ob} (h : Srt l) (id : T) : Srt (dropF l id) := by
  unfold dropF Srt
  rw [List.pairwise_append]
  exact ⟨srt_sub h List.filter_sublist, srt_sub h List.filter_sublist, fun a ha b hb => lt_trans (mem_below.1 ha).2 (mem_above.1 hb).2⟩
theorem mem_put {l : List Ob} {o x : Ob} : x ∈ putF l o ↔ x = o ∨ (x ∈ l ∧ x.id ≠ o.id) := by
  unfold putF
  rw [List.mem_append, List.mem_cons, mem_below, mem_above]
  constructor
  · rintro (⟨h1, h2⟩ | h | ⟨h1, h2⟩)
    · exact .inr ⟨h1, lt_ne h2⟩
    · exact .inl h
    · exact .inr ⟨h1, (lt_ne h2).symm⟩
  · rintro (h | ⟨h1, h2⟩)
    · exact .inr (.inl h)
    · rcases lt_total h2 with h | h
      · exact .inl ⟨h1, h⟩
      · exact .inr (.inr ⟨h1, h⟩)
theorem mem_dropF {l : List Ob} {id : T} {x : Ob} : x ∈ dropF l id ↔ x ∈ l ∧ x.id ≠ id := by
  unfold dropF
  rw [List.mem_append, mem_below, mem_above]
  constructor
  · rintro (⟨h1, h2⟩ | ⟨h1, h2⟩)
    · exact ⟨h1, lt_ne h2⟩
    · exact ⟨h1, (lt_ne h2).symm⟩
  · rintro ⟨h1, h2⟩
    rcases lt_total h2 with h | h
    · exact .inl ⟨h1, h⟩
    · exact .inr ⟨h1, h⟩
theorem look_put {l : List Ob} (h : Srt l) (o : Ob) (id : T) : look (putF l o) id = if id = o.id then some o else look l id := by
  split
  · rename_i e
    rw [look_iff (srt_put h o)]
    exact ⟨mem_put.2 (.inl rfl), e.symm⟩
  · rename_i e
    cases k : look l id with
    | none =>
      rw [look_none] at k ⊢
      intro x hx
      rcases mem_put.1 hx with rfl | ⟨hx, _⟩
      · exact fun e' => e e'.symm
      · exact k x hx
    | some z =>
      rw [look_iff (srt_put h o)]
      refine ⟨mem_put.2 (.inr ⟨look_mem k, ?_⟩), look_id k⟩
      rw [look_id k]; exact e
theorem look_dropF {l : List Ob} (h : Srt l) (id' id : T) : look (dropF l id') id = if id = id' then none else look l id := by
  split
  · rename_i e
    rw [look_none]
    intro x hx
    rw [e]
    exact (mem_dropF.1 hx).2
  · rename_i e
    cases k : look l id with
    | none =>
      rw [look_none] at k ⊢
      exact fun x hx => k x (mem_dropF.1 hx).1
    | some z =>
      rw [look_iff (srt_dropF h id')]
      exact ⟨mem_dropF.2 ⟨look_mem k, by rw [look_id k]; exact e⟩, look_id k⟩
/-- as the code builds them -/
theorem put_pos_has {l : List Ob} (h : Srt l) {o z : Ob} (hl : look l o.id = some z) : putF l o = l.set (pos l o.id) o := by
  obtain ⟨hp, e⟩ := get_pos h hl
  unfold putF
  rw [← take_pos h, ← drop_pos1 h hl, List.set_eq_take_append_cons_drop, if_pos hp]
theorem put_pos_new {l : List Ob} (h : Srt l) {o : Ob} (hl : look l o.id = none) : putF l o = l.take (pos l o.id) ++ o :: l.drop (pos l o.id) := by
  unfold putF
  rw [take_pos h, drop_pos h, hl]; rfl
theorem drop_pos_has {l : List Ob} (h : Srt l) {id : T} {z : Ob} (hl : look l id = some z) : dropF l id = l.take (pos l id) ++ l.drop (pos l id + 1) := by
  unfold dropF
  rw [take_pos h, drop_pos1 h hl]
theorem drop_none {l : List Ob} (h : Srt l) {id : T} (hl : look l id = none) : dropF l id = l := by
  refine look_ext (srt_dropF h id) h fun x => ?_
  rw [look_dropF h]
  split
  · rename_i e; rw [e, hl]
  · rfl
theorem length_put_new {l : List Ob} (h : Srt l) {o : Ob} (hl : look l o.id = none) : (putF l o).length = l.length + 1 := by
  rw [put_pos_new h hl, List.length_append, List.length_cons, List.length_take, List.length_drop]
  have := pos_le l o.id
  omega
theorem length_put_has {l : List Ob} (h : Srt l) {o z : Ob} (hl : look l o.id = some z) : (putF l o).length = l.length := by
  rw [put_pos_has h hl, List.length_set]
theorem length_put_le {l : List Ob} (h : Srt l) (o : Ob) : (putF l o).length ≤ l.length + 1 := by
  cases k : look l o.id with
  | none => rw [length_put_new h k]; omega
  | some z => rw [length_put_has h k]; omega
end Go.Proofs.YtniklmikdkjgiaaGreatDoor.At
namespace Go.Proofs.YtniklmikdkjgiaaGreatDoor.At
structure Dl where
  id : T
  was : Bool
  is : Bool
  old : Ob
  new : Ob
def pairsF : Nat → List Ob → List Ob → List Dl
  | 0, _, _ => []
  | _ + 1, [], [] => []
  | f + 1, x :: a, [] => ⟨x.id, true, false, x, zeroOb⟩ :: pairsF f a []
  | f + 1, [], y :: b => ⟨y.id, false, true, zeroOb, y⟩ :: pairsF f [] b
  | f + 1, x :: a, y :: b =>
    if x.id = y.id then ⟨x.id, true, true, x, y⟩ :: pairsF f a b
    else if lt x.id y.id = true then ⟨x.id, true, false, x, zeroOb⟩ :: pairsF f a (y :: b)
    else ⟨y.id, false, true, zeroOb, y⟩ :: pairsF f (x :: a) b
def differs (d : Dl) : Bool := decide (d.was ≠ d.is) || !sameO d.old d.new
def diffG (a b : List Ob) : List Dl := (pairsF (a.length + b.length) a b).filter differs
def diffF (a b : List Ob) : List Dl := if validM a && validM b then diffG a b else []
/-- the difference of two sides -/
def dOf (id : T) (x y : Option Ob) : Dl := ⟨id, x.isSome, y.isSome, x.getD zeroOb, y.getD zeroOb⟩
def SrtD (l : List Dl) : Prop := l.Pairwise fun a b => lt a.id b.id = true
theorem mem_pairs : ∀ {f : Nat} {a b : List Ob}, a.length + b.length ≤ f → Srt a → Srt b → ∀ {d : Dl}, d ∈ pairsF f a b ↔ (look a d.id ≠ none ∨ look b d.id ≠ none) ∧ d = dOf d.id (look a d.id) (look b d.id)
  | 0, [], [], _, _, _, d => by simp [pairsF, look]
  | 0, _ :: _, _, h, _, _, _ => by simp at h
  | 0, [], _ :: _, h, _, _, _ => by simp at h
  | _ + 1, [], [], _, _, _, d => by simp [pairsF, look]
  | f + 1, x :: a, [], h, ha, hb, d => by
    have ha' := List.pairwise_cons.1 ha
    rw [pairsF, List.mem_cons, mem_pairs (by simpa using h) ha'.2 hb]
    have hn : look ([] : List Ob) d.id = none := rfl
    rw [hn]
    by_cases e : x.id = d.id
    · have l1 : look (x :: a) d.id = some x := by unfold look; rw [List.find?_cons_of_pos (by simpa using e)]
      have l2 : look a d.id = none := look_none.2 fun o ho e' => lt_ne (ha'.1 o ho) (e.trans e'.symm)
      rw [l1, l2]
      simp only [ne_eq, not_true_eq_false, or_self, false_and, or_false, reduceCtorEq, not_false_eq_true, true_and]
      constructor
      · intro h; rw [h]; rfl
      · intro h; rw [h, ← e]; rfl
    · have l1 : look (x :: a) d.id = look a d.id := by unfold look; rw [List.find?_cons_of_neg (by simpa using e)]
      rw [l1]
      exact ⟨fun h => h.elim (fun h => absurd (by rw [h]) e) id, .inr⟩
  | f + 1, [], y :: b, h, ha, hb, d => by
    have hb' := List.pairwise_cons.1 hb
    rw [pairsF, List.mem_cons, mem_pairs (by simp at h ⊢; omega) ha hb'.2]
    have hn : look ([] : List Ob) d.id = none := rfl
    rw [hn]
    by_cases e : y.id = d.id
    · have l1 : look (y :: b) d.id = some y := by unfold look; rw [List.find?_cons_of_pos (by simpa using e)]
      have l2 : look b d.id = none := look_none.2 fun o ho e' => lt_ne (hb'.1 o ho) (e.trans e'.symm)
      rw [l1, l2]
      simp only [ne_eq, not_true_eq_false, or_self, false_and, or_false, reduceCtorEq, not_false_eq_true, true_and, or_true]
      constructor
      · intro h; rw [h]; rfl
      · intro h; rw [h, ← e]; rfl
    · have l1 : look (y :: b) d.id = look b d.id := by unfold look; rw [List.find?_cons_of_neg (by simpa using e)]
      rw [l1]
      exact ⟨fun h => h.elim (fun h => absurd (by rw [h]) e) id, .inr⟩
  | f + 1, x :: a, y :: b, h, ha, hb, d => by
    have ha' := List.pairwise_cons.1 ha
    have hb' := List.pairwise_cons.1 hb
    rw [pairsF]
    split
    · rename_i hxy
      rw [List.mem_cons, mem_pairs (by simp at h ⊢; omega) ha'.2 hb'.2]
      by_cases e : x.id = d.id
      · have l1 : look (x :: a) d.id = some x := by unfold look; rw [List.find?_cons_of_pos (by simpa using e)]
        have l2 : look a d.id = none := look_none.2 fun o ho e' => lt_ne (ha'.1 o ho) (e.trans e'.symm)
        have l3 : look (y :: b) d.id = some y := by unfold look; rw [List.find?_cons_of_pos (by simpa using hxy.symm.trans e)]
        have l4 : look b d.id = none := look_none.2 fun o ho e' => lt_ne (hb'.1 o ho) ((hxy.symm.trans e).trans e'.symm)
        rw [l1, l2, l3, l4]
        simp only [ne_eq, not_true_eq_false, or_self, false_and, or_false, reduceCtorEq, not_false_eq_true, true_and]
        constructor
        · intro h; rw [h]; rfl
        · intro h; rw [h, ← e]; rfl
      · have l1 : look (x :: a) d.id = look a d.id := by unfold look; rw [List.find?_cons_of_neg (by simpa using e)]
        have l2 : look (y :: b) d.id = look b d.id := by unfold look; rw [List.find?_cons_of_neg (by simp; exact fun e' => e (hxy.trans e'))]
        rw [l1, l2]
        exact ⟨fun h => h.elim (fun h => absurd (by rw [h]) e) id, .inr⟩
    · rename_i hxy
      split
      · rename_i hlt
        rw [List.mem_cons, mem_pairs (by simp at h ⊢; omega) ha'.2 hb]
        by_cases e : x.id = d.id
        · have l1 : look (x :: a) d.id = some x := by unfold look; rw [List.find?_cons_of_pos (by simpa using e)]
          have l2 : look a d.id = none := look_none.2 fun o ho e' => lt_ne (ha'.1 o ho) (e.trans e'.symm)
          have l3 : look (y :: b) d.id = none := look_none.2 fun o ho e' => by
            rcases List.mem_cons.1 ho with rfl | ho
            · exact hxy (e.trans e'.symm)
            · exact lt_ne (lt_trans hlt (hb'.1 o ho)) (e.trans e'.symm)
          rw [l1, l2, l3]
          simp only [ne_eq, not_true_eq_false, or_self, false_and, or_false, reduceCtorEq, not_false_eq_true, true_and]
          constructor
          · intro h; rw [h]; rfl
          · intro h; rw [h, ← e]; rfl
        · have l1 : look (x :: a) d.id = look a d.id := by unfold look; rw [List.find?_cons_of_neg (by simpa using e)]
          rw [l1]
          exact ⟨fun h => h.elim (fun h => absurd (by rw [h]) e) id, .inr⟩
      · rename_i hlt
        have hgt : lt y.id x.id = true := (lt_total hxy).resolve_left hlt
        rw [List.mem_cons, mem_pairs (by simp at h ⊢; omega) ha hb'.2]
        by_cases e : y.id = d.id
        · have l1 : look (y :: b) d.id = some y := by unfold look; rw [List.find?_cons_of_pos (by simpa using e)]
          have l2 : look b d.id = none := look_none.2 fun o ho e' => lt_ne (hb'.1 o ho) (e.trans e'.symm)
          have l3 : look (x :: a) d.id = none := look_none.2 fun o ho e' => by
            rcases List.mem_cons.1 ho with rfl | ho
            · exact hxy (e'.trans e.symm)
            · exact lt_ne (lt_trans hgt (ha'.1 o ho)) (e.trans e'.symm)
          rw [l1, l2, l3]
          simp only [ne_eq, not_true_eq_false, or_self, false_and, or_false, reduceCtorEq, not_false_eq_true, true_and, or_true]
          constructor
          · intro h; rw [h]; rfl
          · intro h; rw [h, ← e]; rfl
        · have l1 : look (y :: b) d.id = look b d.id := by unfold look; rw [List.find?_cons_of_neg (by simpa using e)]
          rw [l1]
          exact ⟨fun h => h.elim (fun h => absurd (by rw [h]) e) id, .inr⟩
theorem pairs_ge : ∀ {f : Nat} {a b : List Ob} {k : T}, (∀ o ∈ a, lt k o.id = true) → (∀ o ∈ b, lt k o.id = true) → ∀ d ∈ pairsF f a b, lt k d.id = true
  | 0, _, _, _, _, _, d, hd => by simp [pairsF] at hd
  | _ + 1, [], [], _, _, _, d, hd => by simp [pairsF] at hd
  | f + 1, x :: a, [], k, ha, hb, d, hd => by
    rw [pairsF] at hd
    rcases List.mem_cons.1 hd with rfl | hd
    · exact ha x (by simp)
    · exact pairs_ge (fun o ho => ha o (by simp [ho])) hb d hd
  | f + 1, [], y :: b, k, ha, hb, d, hd => by
    rw [pairsF] at hd
    rcases List.mem_cons.1 hd with rfl | hd
    · exact hb y (by simp)
    · exact pairs_ge ha (fun o ho => hb o (by simp [ho])) d hd
  | f + 1, x :: a, y :: b, k, ha, hb, d, hd => by
    rw [pairsF] at hd
    split at hd
    · rcases List.mem_cons.1 hd with rfl | hd
      · exact ha x (by simp)
      · exact pairs_ge (fun o ho => ha o (by simp [ho])) (fun o ho => hb o (by simp [ho])) d hd
    · split at hd
      · rcases List.mem_cons.1 hd with rfl | hd
        · exact ha x (by simp)
        · exact pairs_ge (fun o ho => ha o (by simp [ho])) hb d hd
      · rcases List.mem_cons.1 hd with rfl | hd
        · exact hb y (by simp)
        · exact pairs_ge ha (fun o ho => hb o (by simp [ho])) d hd
theorem srt_pairs : ∀ {f : Nat} {a b : List Ob}, Srt a → Srt b → SrtD (pairsF f a b)
  | 0, _, _, _, _ => by simp [pairsF, SrtD]
  | _ + 1, [], [], _, _ => by simp [pairsF, SrtD]
  | f + 1, x :: a, [], ha, hb => by
    have ha' := List.pairwise_cons.1 ha
    rw [pairsF]
    exact List.pairwise_cons.2 ⟨pairs_ge ha'.1 (fun o ho => by cases ho), srt_pairs ha'.2 hb⟩
  | f + 1, [], y :: b, ha, hb => by
    have hb' := List.pairwise_cons.1 hb
    rw [pairsF]
    exact List.pairwise_cons.2 ⟨pairs_ge (fun o ho => by cases ho) hb'.1, srt_pairs ha hb'.2⟩
  | f + 1, x :: a, y :: b, ha, hb => by
    have ha' := List.pairwise_cons.1 ha
    have hb' := List.pairwise_cons.1 hb
    rw [pairsF]
    split
    · rename_i e
      exact List.pairwise_cons.2 ⟨pairs_ge ha'.1 (fun o ho => by show lt x.id o.id = true; rw [e]; exact hb'.1 o ho), srt_pairs ha'.2 hb'.2⟩
    · rename_i e
      split
      · rename_i hl
        refine List.pairwise_cons.2 ⟨pairs_ge ha'.1 (fun o ho => ?_), srt_pairs ha'.2 hb⟩
        rcases List.mem_cons.1 ho with rfl | ho
        · exact hl
        · exact lt_trans hl (hb'.1 o ho)
      · rename_i hl
        have hg := (lt_total e).resolve_left hl
        refine List.pairwise_cons.2 ⟨pairs_ge (fun o ho => ?_) hb'.1, srt_pairs ha hb'.2⟩
        rcases List.mem_cons.1 ho with rfl | ho
        · exact hg
        · exact lt_trans hg (ha'.1 o ho)
theorem srt_diff {a b : List Ob} (ha : Srt a) (hb : Srt b) : SrtD (diffG a b) := List.Pairwise.sublist List.filter_sublist (srt_pairs ha hb)
theorem differs_of {id : T} {x y : Option Ob} (hx : ∀ o, x = some o → o.id = id) (hy : ∀ o, y = some o → o.id = id) : differs (dOf id x y) = true ↔ x ≠ y := by
  unfold differs dOf
  cases x with
  | none =>
    cases y with
    | none => simp [sameO_refl]
    | some y => simp
  | some x =>
    cases y with
    | none => simp
    | some y =>
      simp only [Option.isSome_some, ne_eq, not_true_eq_false, decide_false, Option.getD_some, Bool.false_or, Option.some.injEq]
      rw [Bool.not_eq_true', ← sameO_iff, Bool.not_eq_true]
theorem mem_diff {a b : List Ob} (ha : Srt a) (hb : Srt b) {d : Dl} : d ∈ diffG a b ↔ look a d.id ≠ look b d.id ∧ d = dOf d.id (look a d.id) (look b d.id) := by
  unfold diffG
  rw [List.mem_filter, mem_pairs (Nat.le_refl _) ha hb]
  constructor
  · rintro ⟨⟨h1, h2⟩, h3⟩
    rw [h2, differs_of (fun o => look_id) (fun o => look_id)] at h3
    exact ⟨h3, h2⟩
  · rintro ⟨h1, h2⟩
    refine ⟨⟨?_, h2⟩, ?_⟩
    · cases k : look a d.id with
      | none => rw [k] at h1; exact .inr h1.symm
      | some _ => exact .inl (by simp)
    · rw [h2, differs_of (fun o => look_id) (fun o => look_id)]; exact h1
/-! ### patches -/
def properB (there : Bool) (id : T) (o : Ob) : Bool := if there then decide (id = o.id) && validO o else sameO o zeroOb
def okD (d : Dl) : Bool := (d.was || d.is) && differs d && properB d.was d.id d.old && properB d.is d.id d.new
def deltasFrom : T → List Dl → Bool
  | _, [] => true
  | last, d :: l => lt last d.id && okD d && deltasFrom d.id l
theorem deltasFrom_iff : ∀ {l : List Dl} {last : T}, deltasFrom last l = true ↔ SrtD l ∧ ∀ d ∈ l, okD d = true ∧ lt last d.id = true
  | [], _ => by simp [deltasFrom, SrtD]
  | d :: l, last => by
    unfold SrtD
    rw [deltasFrom, Bool.and_eq_true, Bool.and_eq_true, deltasFrom_iff (l := l), List.pairwise_cons]
    constructor
    · rintro ⟨⟨h1, h2⟩, h3, h4⟩
      refine ⟨⟨fun b hb => (h4 b hb).2, h3⟩, fun x hx => ?_⟩
      rcases List.mem_cons.1 hx with rfl | hx
      · exact ⟨h2, h1⟩
      · exact ⟨(h4 x hx).1, lt_trans h1 (h4 x hx).2⟩
    · rintro ⟨⟨h1, h2⟩, h3⟩
      exact ⟨⟨(h3 d (by simp)).2, (h3 d (by simp)).1⟩, h2, fun x hx => ⟨(h3 x (by simp [hx])).1, h1 x hx⟩⟩
/-- one step: what is put out, and what is left; none if the map is another one -/
def fitB (x : Option Ob) (d : Dl) : Bool := match x with
  | none => !d.was
  | some z => d.was && sameO z d.old
theorem fitB_iff {x : Option Ob} {d : Dl} : fitB x d = true ↔ x = if d.was then some d.old else none := by
  unfold fitB
  cases x with
  | none => cases d.was <;> simp
  | some z =>
    cases d.was
    · simp
    · simp [sameO_iff]
def stepOut (m : List Ob) (d : Dl) : List Ob := below m d.id ++ if d.is then [d.new] else []
def patchGo : List Ob → List Ob → List Dl → Option (List Ob)
  | out, m, [] => some (out ++ m)
  | out, m, d :: l => if fitB (look m d.id) d = true then patchGo (out ++ stepOut m d) (above m d.id) l else none
def patchF (m : List Ob) (l : List Dl) : List Ob × Nat :=
  if deltasFrom [] l && validM m then
    match patchGo [] m l with
    | none => ([], 12)
    | some r => (r, 0)
  else ([], 1)
def lookD (l : List Dl) (id : T) : Option Dl := l.find? fun d => decide (d.id = id)
/-- what a patched map has -/
def after (l : List Dl) (m : List Ob) (id : T) : Option Ob :=
  match lookD l id with
  | none => look m id
  | some d => if d.is then some d.new else none
theorem lookD_cons_ne {d : Dl} {l : List Dl} {id : T} (h : d.id ≠ id) : lookD (d :: l) id = lookD l id := by
  unfold lookD; rw [List.find?_cons_of_neg (by simpa using h)]
theorem lookD_cons_eq {d : Dl} {l : List Dl} : lookD (d :: l) d.id = some d := by
  unfold lookD; rw [List.find?_cons_of_pos (by simp)]
theorem lookD_none {l : List Dl} {id : T} : lookD l id = none ↔ ∀ d ∈ l, d.id ≠ id := by
  unfold lookD; rw [List.find?_eq_none]; simp
theorem lookD_id {l : List Dl} {id : T} {d : Dl} (h : lookD l id = some d) : d.id = id := by have := List.find?_some h; simpa using this
theorem lookD_mem {l : List Dl} {id : T} {d : Dl} (h : lookD l id = some d) : d ∈ l := List.mem_of_find?_eq_some h
theorem srtD_unique : ∀ {l : List Dl}, SrtD l → ∀ {a b : Dl}, a ∈ l → b ∈ l → a.id = b.id → a = b
  | [], _, a, _, ha, _, _ => by cases ha
  | o :: l, h, a, b, ha, hb, e => by
    have h := List.pairwise_cons.1 h
    rcases List.mem_cons.1 ha with e1 | h1
    · rcases List.mem_cons.1 hb with e2 | h2
      · rw [e1, e2]
      · exact absurd (e1 ▸ e) (lt_ne (h.1 b h2))
    · rcases List.mem_cons.1 hb with e2 | h2
      · exact absurd (e2 ▸ e).symm (lt_ne (h.1 a h1))
      · exact srtD_unique h.2 h1 h2 e
theorem lookD_of_mem {l : List Dl} (h : SrtD l) {d : Dl} (hd : d ∈ l) : lookD l d.id = some d := by
  cases k : lookD l d.id with
  | none => rw [lookD_none] at k; exact absurd rfl (k d hd)
  | some b => rw [srtD_unique h (lookD_mem k) hd (lookD_id k)]
theorem srtD_ext : ∀ {a b : List Dl}, SrtD a → SrtD b → (∀ o, o ∈ a ↔ o ∈ b) → a = b
  | [], [], _, _, _ => rfl
  | [], y :: b, _, _, h => by have := (h y).2 (by simp); cases this
  | x :: a, [], _, _, h => by have := (h x).1 (by simp); cases this
  | x :: a, y :: b, ha, hb, h => by
    have ha' := List.pairwise_cons.1 ha
    have hb' := List.pairwise_cons.1 hb
    have e : x = y := by
      rcases List.mem_cons.1 ((h x).1 (by simp)) with e | h1
      · exact e
      · rcases List.mem_cons.1 ((h y).2 (by simp)) with e | h2
        · exact e.symm
        · have := lt_trans (ha'.1 y h2) (hb'.1 x h1)
          rw [lt_irrefl] at this; cases this
    subst e
    refine congrArg _ (srtD_ext ha'.2 hb'.2 fun o => ?_)
    constructor
    · intro ho
      rcases List.mem_cons.1 ((h o).1 (by simp [ho])) with e | h1
      · subst e; have := ha'.1 o ho; rw [lt_irrefl] at this; cases this
      · exact h1
    · intro ho
      rcases List.mem_cons.1 ((h o).2 (by simp [ho])) with e | h1
      · subst e; have := hb'.1 o ho; rw [lt_irrefl] at this; cases this
      · exact h1
theorem look_app {a b : List Ob} {id : T} : look (a ++ b) id = (look a id).or (look b id) := by unfold look; exact List.find?_append
theorem look_above {m : List Ob} (h : Srt m) {k id : T} (hk : lt k id = true) : look (above m k) id = look m id := by
  have hs : Srt (above m k) := srt_sub h List.filter_sublist
  cases e : look m id with
  | none => rw [look_none] at e ⊢; exact fun o ho => e o (mem_above.1 ho).1
  | some z => rw [look_iff hs, mem_above]; exact ⟨⟨look_mem e, by rw [look_id e]; exact hk⟩, look_id e⟩
theorem look_below {m : List Ob} (h : Srt m) {k id : T} (hk : lt id k = true) : look (below m k) id = look m id := by
  have hs : Srt (below m k) := srt_sub h List.filter_sublist
  cases e : look m id with
  | none => rw [look_none] at e ⊢; exact fun o ho => e o (mem_below.1 ho).1
  | some z => rw [look_iff hs, mem_below]; exact ⟨⟨look_mem e, by rw [look_id e]; exact hk⟩, look_id e⟩
theorem look_below_ge {m : List Ob} {k id : T} (hk : lt id k = false) : look (below m k) id = none := by
  rw [look_none]
  intro o ho e
  have := (mem_below.1 ho).2
  rw [e, hk] at this; cases this
theorem look_above_le {m : List Ob} {k id : T} (hk : lt k id = false) : look (above m k) id = none := by
  rw [look_none]
  intro o ho e
  have := (mem_above.1 ho).2
  rw [e, hk] at this; cases this
/-- all differences fit the map -/
def Fits (m : List Ob) (l : List Dl) : Prop := ∀ d ∈ l, look m d.id = if d.was then some d.old else none
/-- the differences name objects of their own Id -/
def Own (l : List Dl) : Prop := ∀ d ∈ l, d.is = true → d.new.id = d.id
theorem patchGo_spec : ∀ {l : List Dl} {out m : List Ob}, Srt m → SrtD l → Own l →
    (Fits m l → ∃ r, patchGo out m l = some (out ++ r) ∧ Srt r ∧ (∀ id, look r id = after l m id) ∧ r.length ≤ m.length + l.length) ∧ (¬ Fits m l → patchGo out m l = none)
  | [], out, m, hm, _, _ => ⟨fun _ => ⟨m, rfl, hm, fun id => rfl, by simp⟩, fun h => absurd (fun d hd => by cases hd) h⟩
  | d :: l, out, m, hm, hl, ho => by
    have hl' := List.pairwise_cons.1 hl
    have hsa : Srt (above m d.id) := srt_sub hm List.filter_sublist
    have ih := @patchGo_spec l (out ++ stepOut m d) (above m d.id) hsa hl'.2 (fun x hx => ho x (by simp [hx]))
    have hf : Fits (above m d.id) l ↔ Fits m l := by
      constructor
      · intro h x hx; rw [← look_above hm (hl'.1 x hx)]; exact h x hx
      · intro h x hx; rw [look_above hm (hl'.1 x hx)]; exact h x hx
    constructor
    · intro h
      obtain ⟨r, h1, h2, h3, h4⟩ := ih.1 (hf.2 fun x hx => h x (by simp [hx]))
      have hd := h d (by simp)
      have hr : ∀ o ∈ r, lt d.id o.id = true := fun o hor => by
        have := look_of_mem h2 hor
        rw [h3] at this
        unfold after at this
        cases k : lookD l o.id with
        | none =>
          rw [k] at this
          exact (mem_above.1 (look_mem this)).2
        | some x =>
          have := hl'.1 x (lookD_mem k)
          rw [lookD_id k] at this
          exact this
      have hnew : ∀ z ∈ (if d.is then [d.new] else []), z.id = d.id := fun z hz => by
        cases hi : d.is
        · rw [hi] at hz; simp at hz
        · rw [hi, if_pos rfl] at hz
          rw [List.mem_singleton.1 hz]; exact ho d (by simp) hi
      refine ⟨stepOut m d ++ r, ?_, ?_, ?_, ?_⟩
      · rw [patchGo, if_pos (fitB_iff.2 hd), h1, List.append_assoc]
      · unfold Srt stepOut
        rw [List.append_assoc, List.pairwise_append, List.pairwise_append]
        refine ⟨srt_sub hm List.filter_sublist, ⟨?_, h2, ?_⟩, ?_⟩
        · cases d.is <;> simp
        · intro a ha b hb; rw [hnew a ha]; exact hr b hb
        · intro a ha b hb
          have ha := (mem_below.1 ha).2
          rcases List.mem_append.1 hb with hb | hb
          · rw [hnew b hb]; exact ha
          · exact lt_trans ha (hr b hb)
      · intro id
        unfold stepOut
        rw [look_app, look_app, h3]
        by_cases e : d.id = id
        · subst e
          have h5 : look (below m d.id) d.id = none := look_below_ge (lt_irrefl _)
          have h6 : after l (above m d.id) d.id = none := by
            unfold after
            rw [lookD_none.2 fun x hx => (lt_ne (hl'.1 x hx)).symm]
            exact look_above_le (lt_irrefl _)
          rw [h5, h6]
          unfold after
          rw [lookD_cons_eq]
          cases hi : d.is
          · simp [look, hi]
          · have := ho d (by simp) hi
            simp [look, this, hi]
        · have h7 : look (if d.is then [d.new] else []) id = none := look_none.2 fun z hz => by rw [hnew z hz]; exact e
          rw [h7]
          unfold after
          rw [lookD_cons_ne e]
          rcases lt_total e with hlt | hgt
          · rw [look_below_ge (lt_asymm hlt)]
            cases lookD l id with
            | none => simp [look_above hm hlt]
            | some x => simp
          · rw [look_below hm hgt]
            rw [lookD_none.2 fun x hx e' => lt_ne (lt_trans hgt (hl'.1 x hx)) e'.symm]
            show ((look m id).or none).or (look (above m d.id) id) = look m id
            rw [look_above_le (lt_asymm hgt)]
            simp
      · have hb : (below m d.id).length + (above m d.id).length ≤ m.length := by
          have := congrArg List.length (parts hm d.id)
          simp only [List.length_append] at this; omega
        unfold stepOut
        have : (if d.is then [d.new] else []).length ≤ 1 := by cases d.is <;> simp
        simp only [List.length_append, List.length_cons]; omega
    · intro h
      rw [patchGo]
      split
      · rename_i hd
        exact ih.2 fun h' => h fun x hx => by
          rcases List.mem_cons.1 hx with e | hx
          · rw [e]; exact fitB_iff.1 hd
          · exact (hf.1 h') x hx
      · rfl
end Go.Proofs.YtniklmikdkjgiaaGreatDoor.At
namespace Go.Proofs.YtniklmikdkjgiaaGreatDoor.Dg
def M : Nat := 18446744073709551616
def C1 : Nat := 2862933555777941757
def C2 : Nat := 3935559000370003845
def mulM (c x : Nat) : Nat := x * c % M
def xsh (s x : Nat) : Nat := x ^^^ (x >>> s)
def mix (x : Nat) : Nat := xsh 29 (mulM C2 (xsh 32 (mulM C1 x)))
theorem mulM_lt (c x : Nat) : mulM c x < M := Nat.mod_lt _ (by decide)
theorem xsh_lt {s x : Nat} (h : x < M) : xsh s x < M := by
  have h2 : x >>> s < 2 ^ 64 := Nat.lt_of_le_of_lt (Nat.shiftRight_le x s) h
  exact Nat.xor_lt_two_pow h h2
theorem mix_lt (x : Nat) : mix x < M := xsh_lt (mulM_lt _ _)
theorem mulM_inv {c i x : Nat} (h : c * i % M = 1) (hx : x < M) : mulM i (mulM c x) = x := by
  unfold mulM
  rw [Nat.mod_mul_mod, Nat.mul_assoc, Nat.mul_mod, h, Nat.mul_one, Nat.mod_mod, Nat.mod_eq_of_lt hx]
theorem mulM_inj {c i x y : Nat} (h : c * i % M = 1) (hx : x < M) (hy : y < M) (e : mulM c x = mulM c y) : x = y := by
  rw [← mulM_inv h hx, ← mulM_inv h hy, e]
theorem big_shift {x s : Nat} (h : x < M) (hs : 64 ≤ s) : x >>> s = 0 := by
  rw [Nat.shiftRight_eq_div_pow, Nat.div_eq_of_lt]
  exact Nat.lt_of_lt_of_le h (Nat.pow_le_pow_right (show 0 < 2 by decide) hs)
theorem xsh_inv32 {x : Nat} (h : x < M) : xsh 32 (xsh 32 x) = x := by
  unfold xsh
  rw [Nat.shiftRight_xor_distrib, ← Nat.shiftRight_add, big_shift (s := 32 + 32) h (by decide), Nat.xor_zero, Nat.xor_assoc, Nat.xor_self, Nat.xor_zero]
theorem xsh_inj32 {x y : Nat} (hx : x < M) (hy : y < M) (e : xsh 32 x = xsh 32 y) : x = y := by
  rw [← xsh_inv32 hx, ← xsh_inv32 hy, e]
theorem xsh_inv29 {x : Nat} (h : x < M) : xsh 29 x ^^^ (xsh 29 x >>> 29) ^^^ (xsh 29 x >>> 58) = x := by
  unfold xsh
  rw [Nat.shiftRight_xor_distrib, Nat.shiftRight_xor_distrib, ← Nat.shiftRight_add, ← Nat.shiftRight_add, big_shift (s := 29 + 58) h (by decide), Nat.xor_zero, show 29 + 29 = 58 from rfl]
  rw [Nat.xor_assoc x, ← Nat.xor_assoc (x >>> 29), Nat.xor_self, Nat.zero_xor, Nat.xor_assoc, Nat.xor_self, Nat.xor_zero]
theorem xsh_inj29 {x y : Nat} (hx : x < M) (hy : y < M) (e : xsh 29 x = xsh 29 y) : x = y := by
  rw [← xsh_inv29 hx, ← xsh_inv29 hy, e]
theorem mix_inj {x y : Nat} (hx : x < M) (hy : y < M) (e : mix x = mix y) : x = y := by
  unfold mix at e
  have h1 := xsh_inj29 (mulM_lt _ _) (mulM_lt _ _) e
  have h2 := mulM_inj (i := 13700500150304694605) (by decide +kernel) (xsh_lt (mulM_lt _ _)) (xsh_lt (mulM_lt _ _)) h1
  have h3 := xsh_inj32 (mulM_lt _ _) (mulM_lt _ _) h2
  exact mulM_inj (i := 16133697096952638549) (by decide +kernel) hx hy h3
/-- big-endian value -/
def be (l : List UInt8) : Nat := l.foldl (fun n b => n * 256 + b.toNat) 0
theorem be_foldl (l : List UInt8) (n : Nat) : l.foldl (fun n b => n * 256 + b.toNat) n = n * 256 ^ l.length + be l := by
  induction l generalizing n with
  | nil => simp [be]
  | cons b l ih =>
    unfold be
    rw [List.foldl_cons, List.foldl_cons, ih, ih (0 * 256 + b.toNat), List.length_cons, Nat.pow_succ, Nat.zero_mul, Nat.zero_add, Nat.add_mul, Nat.add_assoc, Nat.mul_assoc, Nat.mul_comm 256]
theorem be_cons (b : UInt8) (l : List UInt8) : be (b :: l) = b.toNat * 256 ^ l.length + be l := by
  show (b :: l).foldl _ 0 = _
  rw [List.foldl_cons, be_foldl, Nat.zero_mul, Nat.zero_add]
theorem be_snoc (l : List UInt8) (b : UInt8) : be (l ++ [b]) = be l * 256 + b.toNat := by unfold be; rw [List.foldl_append]; rfl
theorem be_lt (l : List UInt8) : be l < 256 ^ l.length := by
  induction l with
  | nil => simp [be]
  | cons b l ih =>
    rw [be_cons, List.length_cons, Nat.pow_succ]
    have hb := b.toNat_lt
    have : b.toNat * 256 ^ l.length ≤ 255 * 256 ^ l.length := Nat.mul_le_mul_right _ (by omega)
    have e : 256 ^ l.length * 256 = 255 * 256 ^ l.length + 256 ^ l.length := by rw [Nat.mul_comm, show (256 : Nat) = 255 + 1 from rfl, Nat.add_mul, Nat.one_mul]
    rw [e]; omega
theorem be_inj : ∀ {l m : List UInt8}, l.length = m.length → be l = be m → l = m
  | [], [], _, _ => rfl
  | a :: l, b :: m, hl, he => by
    have hlm : l.length = m.length := by simpa using hl
    rw [be_cons, be_cons, hlm] at he
    have h1 := be_lt l; have h2 := be_lt m
    rw [hlm] at h1
    have hpos : 0 < 256 ^ m.length := Nat.pow_pos (by decide)
    have e1 : a.toNat = b.toNat := by
      have := congrArg (· / 256 ^ m.length) he
      rw [Nat.mul_comm, Nat.mul_add_div hpos, Nat.mul_comm b.toNat, Nat.mul_add_div hpos, Nat.div_eq_of_lt h1, Nat.div_eq_of_lt h2] at this
      omega
    have e2 : be l = be m := by rw [e1] at he; omega
    rw [UInt8.toNat_inj.1 e1, be_inj hlm e2]
/-- the number of a block, filled up by zeros -/
def blk (l : List UInt8) : Nat := be l * 256 ^ (8 - l.length)
theorem blk_lt {l : List UInt8} (h : l.length ≤ 8) : blk l < M := by
  unfold blk M
  have h1 := be_lt l
  have hpos : 0 < 256 ^ (8 - l.length) := Nat.pow_pos (by decide)
  calc be l * 256 ^ (8 - l.length) < 256 ^ l.length * 256 ^ (8 - l.length) := (Nat.mul_lt_mul_right hpos).2 h1
    _ = 256 ^ 8 := by rw [← Nat.pow_add]; congr 1; omega
    _ = 18446744073709551616 := by decide
theorem blk_inj {l m : List UInt8} (h : l.length = m.length) (e : blk l = blk m) : l = m := by
  unfold blk at e
  rw [h] at e
  exact be_inj h (Nat.eq_of_mul_eq_mul_right (Nat.pow_pos (by decide)) e)
def step (st : Nat) (p : List UInt8) : Nat := mix (st ^^^ blk p)
theorem xor_lt {a b : Nat} (ha : a < M) (hb : b < M) : a ^^^ b < M := Nat.xor_lt_two_pow (n := 64) ha hb
theorem step_lt (st : Nat) (p : List UInt8) : step st p < M := mix_lt _
theorem xor_inj {a b c : Nat} (e : a ^^^ c = b ^^^ c) : a = b := by
  have := congrArg (· ^^^ c) e
  simpa [Nat.xor_assoc] using this
theorem xor_inj' {a b c : Nat} (e : c ^^^ a = c ^^^ b) : a = b := by rw [Nat.xor_comm c, Nat.xor_comm c] at e; exact xor_inj e
theorem step_inj {s t : Nat} {p : List UInt8} (hs : s < M) (ht : t < M) (hp : p.length ≤ 8) (e : step s p = step t p) : s = t :=
  xor_inj (mix_inj (xor_lt hs (blk_lt hp)) (xor_lt ht (blk_lt hp)) e)
theorem step_inj' {s : Nat} {p q : List UInt8} (hs : s < M) (hp : p.length ≤ 8) (hl : p.length = q.length) (e : step s p = step s q) : p = q :=
  blk_inj hl (xor_inj' (mix_inj (xor_lt hs (blk_lt hp)) (xor_lt hs (blk_lt (by omega))) e))
/-- all blocks, the last one (fewer than eight bytes) too -/
def run (st : Nat) (l : List UInt8) : Nat := if h : 8 ≤ l.length then run (step st (l.take 8)) (l.drop 8) else step st l
termination_by l.length
decreasing_by simp; omega
theorem run_more {st : Nat} {l : List UInt8} (h : 8 ≤ l.length) : run st l = run (step st (l.take 8)) (l.drop 8) := by rw [run, dif_pos h]
theorem run_last {st : Nat} {l : List UInt8} (h : l.length < 8) : run st l = step st l := by rw [run, dif_neg (by omega)]
theorem run_lt (st : Nat) (l : List UInt8) : run st l < M := by
  by_cases h : 8 ≤ l.length
  · rw [run_more h]; exact run_lt _ _
  · rw [run_last (by omega)]; exact step_lt _ _
termination_by l.length
decreasing_by simp; omega
theorem run_inj {s t : Nat} {l : List UInt8} (hs : s < M) (ht : t < M) (e : run s l = run t l) : s = t := by
  by_cases h : 8 ≤ l.length
  · rw [run_more h, run_more h] at e
    exact step_inj hs ht (by rw [List.length_take]; omega) (run_inj (step_lt _ _) (step_lt _ _) e)
  · rw [run_last (by omega), run_last (by omega)] at e
    exact step_inj hs ht (by omega) e
termination_by l.length
decreasing_by simp; omega
def init (n : Nat) : Nat := 1181783497276652981 ^^^ n
def sumN (l : List UInt8) : Nat := run (init l.length) l
theorem sumN_lt (l : List UInt8) : sumN l < M := run_lt _ _
theorem init_lt {n : Nat} (h : n < M) : init n < M := xor_lt (by decide) h
theorem short_inj {a b : List UInt8} (ha : a.length ≤ 7) (hb : b.length ≤ 7) (e : sumN a = sumN b) : a = b := by
  unfold sumN at e
  rw [run_last (by omega), run_last (by omega)] at e
  have la : a.length < M := Nat.lt_of_le_of_lt ha (by decide)
  have lb : b.length < M := Nat.lt_of_le_of_lt hb (by decide)
  have h1 := mix_inj (xor_lt (init_lt la) (blk_lt (by omega))) (xor_lt (init_lt lb) (blk_lt (by omega))) e
  unfold init at h1
  rw [Nat.xor_assoc, Nat.xor_assoc] at h1
  have h2 := xor_inj' h1
  have m8 : ∀ l : List UInt8, l.length ≤ 7 → blk l % 256 = 0 := fun l hl => by
    unfold blk
    rw [show 8 - l.length = (7 - l.length) + 1 by omega, Nat.pow_succ, ← Nat.mul_assoc, Nat.mul_mod_left]
  have low : ∀ x y : Nat, (x ^^^ y) % 256 = (x % 256) ^^^ (y % 256) := fun x y => by
    have := Nat.xor_mod_two_pow (a := x) (b := y) (n := 8)
    simpa using this
  have h3 := congrArg (· % 256) h2
  simp only [low, m8 a ha, m8 b hb, Nat.xor_zero] at h3
  rw [Nat.mod_eq_of_lt (by omega), Nat.mod_eq_of_lt (by omega)] at h3
  rw [h3] at h2
  exact blk_inj h3 (xor_inj' h2)
/-- the state behind whole blocks -/
def pre (st : Nat) (l : List UInt8) : Nat := if h : 8 ≤ l.length then pre (step st (l.take 8)) (l.drop 8) else st
termination_by l.length
decreasing_by simp; omega
theorem pre_lt {st : Nat} (hs : st < M) (l : List UInt8) : pre st l < M := by
  by_cases h : 8 ≤ l.length
  · rw [pre, dif_pos h]; exact pre_lt (step_lt _ _) _
  · rw [pre, dif_neg h]; exact hs
termination_by l.length
decreasing_by simp; omega
theorem run_pre (st : Nat) (l m : List UInt8) (h : l.length % 8 = 0) : run st (l ++ m) = run (pre st l) m := by
  by_cases h8 : 8 ≤ l.length
  · rw [pre, dif_pos h8, run_more (by rw [List.length_append]; omega), List.take_append_of_le_length h8, List.drop_append_of_le_length h8]
    exact run_pre _ _ _ (by rw [List.length_drop]; omega)
  · have : l = [] := List.eq_nil_of_length_eq_zero (by omega)
    subst this
    rw [pre, dif_neg (by simp)]; rfl
termination_by l.length
decreasing_by simp; omega
theorem piece_inj {s : Nat} {a b r : List UInt8} (hs : s < M) (hl : a.length = b.length) (ha : a.length ≤ 8) (e : run s (a ++ r) = run s (b ++ r)) : a = b := by
  by_cases h : 8 ≤ (a ++ r).length
  · have h' : 8 ≤ (b ++ r).length := by simpa [hl] using h
    rw [run_more h, run_more h'] at e
    have ed : (a ++ r).drop 8 = (b ++ r).drop 8 := by rw [List.drop_append, List.drop_append, List.drop_of_length_le ha, List.drop_of_length_le (show b.length ≤ 8 by omega), hl]
    rw [ed] at e
    have h1 := run_inj (step_lt _ _) (step_lt _ _) e
    have h2 := step_inj' hs (by rw [List.length_take]; omega) (by rw [List.length_take, List.length_take]; simp [hl]) h1
    rw [List.take_append, List.take_append, List.take_of_length_le ha, List.take_of_length_le (show b.length ≤ 8 by omega), hl] at h2
    exact List.append_cancel_right h2
  · have h' : ¬ 8 ≤ (b ++ r).length := by simpa [hl] using h
    rw [run_last (by omega), run_last (by omega)] at e
    have h2 := step_inj' hs (by omega) (by simp [hl]) e
    exact List.append_cancel_right h2
theorem block_inj {t a b r : List UInt8} (ht : t.length % 8 = 0) (hl : a.length = b.length) (ha : a.length ≤ 8) (hn : (t ++ a ++ r).length < M) (e : sumN (t ++ a ++ r) = sumN (t ++ b ++ r)) : a = b := by
  unfold sumN at e
  have en : (t ++ b ++ r).length = (t ++ a ++ r).length := by simp [hl]
  rw [en, List.append_assoc, List.append_assoc, run_pre _ _ _ ht, run_pre _ _ _ ht] at e
  exact piece_inj (pre_lt (init_lt (by simpa using hn)) _) hl ha e
def hexd (n : Nat) : UInt8 := if n < 10 then UInt8.ofNat (48 + n) else UInt8.ofNat (87 + n)
def isHex (b : UInt8) : Bool := (decide (48 ≤ b.toNat) && decide (b.toNat ≤ 57)) || (decide (97 ≤ b.toNat) && decide (b.toNat ≤ 102))
theorem hexd_nat {n : Nat} (h : n < 16) : (hexd n).toNat = if n < 10 then 48 + n else 87 + n := by
  unfold hexd; split <;> (rw [UInt8.toNat_ofNat_of_lt']; exact Nat.lt_of_le_of_lt (show _ ≤ 102 by omega) (by decide))
theorem hexd_inj {n m : Nat} (hn : n < 16) (hm : m < 16) (e : hexd n = hexd m) : n = m := by
  have := congrArg UInt8.toNat e
  rw [hexd_nat hn, hexd_nat hm] at this
  split at this <;> split at this <;> omega
theorem hexd_hex {n : Nat} (h : n < 16) : isHex (hexd n) = true := by
  unfold isHex
  rw [hexd_nat h]
  split <;> simp <;> omega
def hex : Nat → Nat → List UInt8
  | 0, _ => []
  | k + 1, n => hex k (n / 16) ++ [hexd (n % 16)]
theorem hex_len : ∀ (k n : Nat), (hex k n).length = k
  | 0, _ => rfl
  | k + 1, n => by rw [hex, List.length_append, hex_len k]; rfl
theorem hex_all : ∀ (k n : Nat), ∀ b ∈ hex k n, isHex b = true
  | 0, _ => by simp [hex]
  | k + 1, n => by
    intro b hb
    rw [hex, List.mem_append] at hb
    rcases hb with hb | hb
    · exact hex_all k _ b hb
    · simp at hb; subst hb; exact hexd_hex (Nat.mod_lt _ (by decide))
theorem hex_inj : ∀ (k n m : Nat), n < 16 ^ k → m < 16 ^ k → hex k n = hex k m → n = m
  | 0, n, m, hn, hm, _ => by simp at hn hm; omega
  | k + 1, n, m, hn, hm, e => by
    rw [hex, hex] at e
    have hl : (hex k (n / 16)).length = (hex k (m / 16)).length := by rw [hex_len, hex_len]
    obtain ⟨e1, e2⟩ := List.append_inj e hl
    have h1 := hexd_inj (Nat.mod_lt _ (by decide)) (Nat.mod_lt _ (by decide)) (List.cons.inj e2).1
    have h2 := hex_inj k (n / 16) (m / 16) (by rw [Nat.pow_succ] at hn; omega) (by rw [Nat.pow_succ] at hm; omega) e1
    omega
def sumL (l : List UInt8) : List UInt8 := hex 16 (sumN l)
theorem sumL_inj {a b : List UInt8} (e : sumL a = sumL b) : sumN a = sumN b := hex_inj 16 _ _ (sumN_lt a) (sumN_lt b) e
def isD (l : List UInt8) : Bool := decide (l.length = 16) && l.all isHex
theorem sumL_isD (l : List UInt8) : isD (sumL l) = true := by
  unfold isD sumL
  rw [hex_len, Bool.and_eq_true, List.all_eq_true]
  exact ⟨by decide, hex_all _ _⟩
theorem isD_long {l : List UInt8} (h : l.length ≠ 16) : isD l = false := by unfold isD; simp [h]
theorem isD_put {l : List UInt8} {k : Nat} {b : UInt8} (hk : k < l.length) (hb : isHex b = false) : isD (l.take k ++ b :: l.drop (k + 1)) = false := by
  unfold isD
  rw [Bool.and_eq_false_iff]
  refine .inr ?_
  rw [List.all_append, List.all_cons, hb]; simp
theorem short_iff {a b : List UInt8} (ha : a.length ≤ 7) (hb : b.length ≤ 7) : sumL a = sumL b ↔ a = b := ⟨fun e => short_inj ha hb (sumL_inj e), fun e => by rw [e]⟩
theorem block_iff {t a b r : List UInt8} (ht : t.length % 8 = 0) (hl : a.length = b.length) (ha : a.length ≤ 8) (hn : (t ++ a ++ r).length < M) : sumL (t ++ a ++ r) = sumL (t ++ b ++ r) ↔ a = b :=
  ⟨fun e => block_inj ht hl ha hn (sumL_inj e), fun e => by rw [e]⟩
/-! ### lists -/
def decd (n : Nat) : UInt8 := UInt8.ofNat (48 + n)
def dec (n : Nat) : List UInt8 := if n < 10 then [decd n] else dec (n / 10) ++ [decd (n % 10)]
theorem decd_nat {n : Nat} (h : n < 10) : (decd n).toNat = 48 + n := by
  unfold decd; rw [UInt8.toNat_ofNat_of_lt']; exact Nat.lt_of_le_of_lt (show 48 + n ≤ 57 by omega) (by decide)
theorem decd_inj {n m : Nat} (hn : n < 10) (hm : m < 10) (e : decd n = decd m) : n = m := by
  have := congrArg UInt8.toNat e
  rw [decd_nat hn, decd_nat hm] at this; omega
theorem dec_one {n : Nat} (h : n < 10) : dec n = [decd n] := by rw [dec, if_pos h]
theorem dec_more {n : Nat} (h : ¬ n < 10) : dec n = dec (n / 10) ++ [decd (n % 10)] := by rw [dec, if_neg h]
theorem dec_ne (n : Nat) : dec n ≠ [] := by rw [dec]; split <;> simp
theorem dec_colon (n : Nat) : (58 : UInt8) ∉ dec n := by
  have key : ∀ k, k < 10 → (58 : UInt8) ≠ decd k := fun k hk e => by
    have := congrArg UInt8.toNat e
    rw [decd_nat hk] at this
    have h58 : (58 : UInt8).toNat = 58 := by decide
    omega
  rw [dec]
  split
  · rename_i h; simpa using key n h
  · rw [List.mem_append]
    rintro (h | h)
    · exact dec_colon (n / 10) h
    · simp at h; exact key _ (Nat.mod_lt _ (by decide)) h
termination_by n
decreasing_by omega
theorem dec_inj {n m : Nat} (e : dec n = dec m) : n = m := by
  by_cases hn : n < 10
  · by_cases hm : m < 10
    · rw [dec_one hn, dec_one hm] at e
      exact decd_inj hn hm (List.cons.inj e).1
    · rw [dec_one hn, dec_more hm] at e
      have := congrArg List.length e
      rw [List.length_append] at this
      have h2 := List.length_pos_iff.2 (dec_ne (m / 10))
      simp only [List.length_singleton] at this; omega
  · by_cases hm : m < 10
    · rw [dec_more hn, dec_one hm] at e
      have := congrArg List.length e
      rw [List.length_append] at this
      have h2 := List.length_pos_iff.2 (dec_ne (n / 10))
      simp only [List.length_singleton] at this; omega
    · rw [dec_more hn, dec_more hm] at e
      obtain ⟨e1, e2⟩ := List.append_inj' e rfl
      have h1 := decd_inj (Nat.mod_lt _ (by decide)) (Nat.mod_lt _ (by decide)) (List.cons.inj e2).1
      have h2 := dec_inj e1
      omega
termination_by n
decreasing_by omega
def elem (s : List UInt8) : List UInt8 := dec s.length ++ 58 :: s
def joined (l : List (List UInt8)) : List UInt8 := l.flatMap elem
theorem split_at {b : UInt8} : ∀ {x y r s : List UInt8}, b ∉ x → b ∉ y → x ++ b :: r = y ++ b :: s → x = y ∧ r = s
  | [], [], _, _, _, _, e => ⟨rfl, (List.cons.inj e).2⟩
  | [], c :: y, _, _, _, hy, e => by simp at e; exact absurd e.1 (fun h => hy (by simp [h]))
  | c :: x, [], _, _, hx, _, e => by simp at e; exact absurd e.1.symm (fun h => hx (by simp [h]))
  | c :: x, d :: y, _, _, hx, hy, e => by
    simp only [List.cons_append, List.cons.injEq] at e
    simp at hx hy
    obtain ⟨h1, h2⟩ := split_at hx.2 hy.2 e.2
    exact ⟨by rw [e.1, h1], h2⟩
theorem joined_inj : ∀ {l m : List (List UInt8)}, joined l = joined m → l = m
  | [], [], _ => rfl
  | [], y :: m, e => by
    have := congrArg List.length e
    simp [joined, elem] at this
  | x :: l, [], e => by
    have := congrArg List.length e
    simp [joined, elem] at this
  | x :: l, y :: m, e => by
    unfold joined at e
    rw [List.flatMap_cons, List.flatMap_cons] at e
    unfold elem at e
    rw [List.append_assoc, List.append_assoc, List.cons_append, List.cons_append] at e
    obtain ⟨h1, h2⟩ := split_at (dec_colon _) (dec_colon _) e
    obtain ⟨h3, h4⟩ := List.append_inj h2 (dec_inj h1)
    rw [h3, joined_inj h4]
theorem joined_iff {l m : List (List UInt8)} : joined l = joined m ↔ l = m := ⟨joined_inj, fun e => by rw [e]⟩
theorem one_iff {p a b : List UInt8} (hp : p.length = 6) (hl : a.length = b.length) (ha : a.length ≤ 3) : sumL (joined [p ++ a]) = sumL (joined [p ++ b]) ↔ a = b := by
  have e : ∀ c : List UInt8, c.length = a.length → joined [p ++ c] = (dec (6 + a.length) ++ 58 :: p) ++ c ++ [] := fun c hc => by simp [joined, elem, hp, hc]
  rw [e a rfl, e b hl.symm, dec_one (by omega)]
  exact block_iff (by simp [hp]) hl (by omega) (Nat.lt_of_le_of_lt (show _ ≤ 100 by simp [hp]; omega) (by decide))
end Go.Proofs.YtniklmikdkjgiaaGreatDoor.Dg
