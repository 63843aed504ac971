/- PLAIN LAW of Moderate: what the statuses are, and what the statements ask of them. -/
import Derived.Test.YtniklmikdkjgiaaGreatDoorXR
set_option linter.unusedSimpArgs false
set_option linter.unusedVariables false
namespace Go.Proofs.YtniklmikdkjgiaaGreatDoor
open Go.RowKit

/-- a change set with its status -/
structure Sx where
  id : Tx
  st : Int
  by_ : Tx
  own : RV
  cur : RV
def stOf (o : Int) : Int := if o = 2 then 2 else if o = 4 then 3 else 1
def hasS (es : List Sx) (t : Tx) : Bool := es.any fun e => decide (e.id = t)
def obeyT (r : RV) (e : Sx) : Sx := if 1 ≤ r.order ∧ r.order ≤ 4 then ⟨e.id, stOf r.order, idC r.c, e.own, if r.order = 3 then r else e.own⟩ else e
def obeyS (r : RV) (e : Sx) : Sx := if e.id = r.target then obeyT r e else e
def newS (r : RV) : Sx := ⟨idC r.c, 1, [], r, r⟩
def stepS (ms : List Int) (es : List Sx) (r : RV) : List Sx :=
  if r.kind = 1 then (if hasS es (idC r.c) then es else es ++ [newS r])
  else if r.kind = 3 then (if inI ms r.author then es.map (obeyS r) else es)
  else es
def entS (ms : List Int) (l : List RV) : List Sx := l.foldl (stepS ms) []
theorem hasS_app (es : List Sx) (e : Sx) (t : Tx) : hasS (es ++ [e]) t = (hasS es t || decide (e.id = t)) := by simp [hasS]
theorem hasS_iff (es : List Sx) (t : Tx) : hasS es t = true ↔ ∃ e ∈ es, e.id = t := by simp [hasS]
theorem obeyT_id (r : RV) (e : Sx) : (obeyT r e).id = e.id := by unfold obeyT; split <;> rfl
theorem obeyS_id (r : RV) (e : Sx) : (obeyS r e).id = e.id := by unfold obeyS; split; exact obeyT_id r e; rfl
theorem entS_app (ms : List Int) (l : List RV) (r : RV) : entS ms (l ++ [r]) = stepS ms (entS ms l) r := by simp [entS, List.foldl_append]
theorem entS_take (ms : List Int) (l : List RV) {k : Nat} (h : k < l.length) : entS ms (l.take (k + 1)) = stepS ms (entS ms (l.take k)) l[k] := by
  rw [List.take_succ_eq_append_getElem h, entS_app]
theorem step_ids (ms : List Int) (es : List Sx) (r : RV) : (stepS ms es r).map (·.id) = es.map (·.id) ∨ (r.kind = 1 ∧ hasS es (idC r.c) = false ∧ (stepS ms es r).map (·.id) = es.map (·.id) ++ [idC r.c]) := by
  unfold stepS
  split
  · next h1 =>
    cases h : hasS es (idC r.c)
    · exact .inr ⟨h1, rfl, by simp [newS]⟩
    · exact .inl rfl
  split
  · split
    · left; rw [List.map_map]; apply List.map_congr_left; intro e _; exact obeyS_id r e
    · exact .inl rfl
  · exact .inl rfl
theorem nodup_snoc {α : Type} {l : List α} {a : α} (h : l.Nodup) (ha : a ∉ l) : (l ++ [a]).Nodup := by
  rw [List.nodup_append]
  refine ⟨h, by simp, ?_⟩
  intro x hx y hy e
  rw [List.mem_singleton.1 hy] at e
  subst e; exact ha hx
theorem step_nodup (ms : List Int) {es : List Sx} (r : RV) (h : (es.map (·.id)).Nodup) : ((stepS ms es r).map (·.id)).Nodup := by
  rcases step_ids ms es r with e | ⟨-, h1, e⟩
  · rw [e]; exact h
  · rw [e]
    refine nodup_snoc h (fun hm => ?_)
    obtain ⟨x, hx, e1⟩ := List.mem_map.1 hm
    have := (hasS_iff es (idC r.c)).2 ⟨x, hx, e1⟩
    rw [h1] at this; cases this
theorem step_mem {ms : List Int} {es : List Sx} {r : RV} {x : Sx} (h : x ∈ stepS ms es r) : (∃ y ∈ es, x.id = y.id ∧ x.own = y.own ∧ (x.cur = y.cur ∨ x.cur = r ∨ x.cur = y.own)) ∨ (r.kind = 1 ∧ x = newS r) := by
  unfold stepS at h
  split at h
  · next h1 =>
    split at h
    · exact .inl ⟨x, h, rfl, rfl, .inl rfl⟩
    · rcases List.mem_append.1 h with h | h
      · exact .inl ⟨x, h, rfl, rfl, .inl rfl⟩
      · exact .inr ⟨h1, List.mem_singleton.1 h⟩
  split at h
  · split at h
    · obtain ⟨y, hy, rfl⟩ := List.mem_map.1 h
      refine .inl ⟨y, hy, obeyS_id r y, ?_, ?_⟩
      · unfold obeyS obeyT; split <;> (try split) <;> rfl
      · unfold obeyS obeyT; split
        · split
          · dsimp only; split
            · exact .inr (.inl rfl)
            · exact .inr (.inr rfl)
          · exact .inl rfl
        · exact .inl rfl
    · exact .inl ⟨x, h, rfl, rfl, .inl rfl⟩
  · exact .inl ⟨x, h, rfl, rfl, .inl rfl⟩
/-- where an entry comes from -/
structure FromS (l : List RV) (x : Sx) : Prop where
  own : x.own ∈ l
  cur : x.cur ∈ l
  kind : x.own.kind = 1
  id : x.id = idC x.own.c
theorem FromS.more {l m : List RV} {x : Sx} (h : FromS l x) (hs : ∀ r ∈ l, r ∈ m) : FromS m x := ⟨hs _ h.own, hs _ h.cur, h.kind, h.id⟩
theorem step_from {ms : List Int} {es : List Sx} {r : RV} {l : List RV} (h : ∀ x ∈ es, FromS l x) : ∀ x ∈ stepS ms es r, FromS (l ++ [r]) x := by
  intro x hx
  rcases step_mem hx with ⟨y, hy, e1, e2, e3⟩ | ⟨h1, rfl⟩
  · have f := h y hy
    refine ⟨by rw [e2]; exact List.mem_append_left _ f.own, ?_, by rw [e2]; exact f.kind, by rw [e1, e2]; exact f.id⟩
    rcases e3 with e | e | e
    · rw [e]; exact List.mem_append_left _ f.cur
    · rw [e]; simp
    · rw [e]; exact List.mem_append_left _ f.own
  · exact ⟨by simp [newS], by simp [newS], h1, rfl⟩
theorem foldS_from {ms : List Int} : ∀ (l : List RV) (es : List Sx) (m : List RV), (∀ x ∈ es, FromS m x) → ∀ x ∈ l.foldl (stepS ms) es, FromS (m ++ l) x
  | [], es, m, h => by simpa using h
  | r :: l, es, m, h => by
    have := foldS_from (ms := ms) l (stepS ms es r) (m ++ [r]) (step_from h)
    simpa using this
theorem entS_from (ms : List Int) (l : List RV) : ∀ x ∈ entS ms l, FromS l x := by
  have := foldS_from (ms := ms) l [] [] (by simp)
  rw [List.nil_append] at this
  exact this
theorem foldS_nodup {ms : List Int} : ∀ (l : List RV) (es : List Sx), (es.map (·.id)).Nodup → ((l.foldl (stepS ms) es).map (·.id)).Nodup
  | [], _, h => h
  | r :: l, _, h => foldS_nodup l _ (step_nodup ms r h)
theorem entS_nodup (ms : List Int) (l : List RV) : ((entS ms l).map (·.id)).Nodup := foldS_nodup l [] List.nodup_nil
theorem step_len (ms : List Int) (es : List Sx) (r : RV) : (stepS ms es r).length ≤ es.length + 1 := by
  unfold stepS
  repeat' split
  all_goals simp
theorem entS_len (ms : List Int) : ∀ (l : List RV), (entS ms l).length ≤ l.length := by
  have g : ∀ (l : List RV) (es : List Sx), (l.foldl (stepS ms) es).length ≤ es.length + l.length := by
    intro l
    induction l with
    | nil => intro es; exact Nat.le_refl _
    | cons r l ih => intro es; have := ih (stepS ms es r); have := step_len ms es r; simp only [List.foldl_cons, List.length_cons] at *; omega
  intro l
  have := g l []
  rw [List.length_nil, Nat.zero_add] at this
  exact this
theorem map_self {es : List Sx} {r : RV} (h : hasS es r.target = false) : es.map (obeyS r) = es := by
  have : es.map (obeyS r) = es.map id := by
    apply List.map_congr_left
    intro e he
    unfold obeyS
    rw [if_neg (fun e1 => ?_)]; rfl
    have := (hasS_iff es r.target).2 ⟨e, he, e1⟩
    rw [h] at this; cases this
  rw [this, List.map_id]
/-- P29.3 -/
theorem law_others (ms : List Int) (l : List RV) (x : RV) (k : Nat) (h1 : x.kind ≠ 1)
    (h2 : x.kind = 3 → inI ms x.author = true → ∀ r ∈ l.take k, r.kind = 1 → idC r.c ≠ x.target) : entS ms ((l.take k ++ [x]) ++ l.drop k) = entS ms l := by
  have e : entS ms (l.take k ++ [x]) = entS ms (l.take k) := by
    rw [entS_app]
    unfold stepS
    rw [if_neg h1]
    split
    · next h3 =>
      split
      · next h4 =>
        refine map_self ?_
        cases hh : hasS (entS ms (l.take k)) x.target
        · rfl
        · obtain ⟨y, hy, e⟩ := (hasS_iff _ _).1 hh
          have f := entS_from ms _ y hy
          exact absurd (f.id.symm.trans e) (h2 h3 h4 _ f.own f.kind)
      · rfl
    · rfl
  conv => rhs; rw [← List.take_append_drop k l]
  unfold entS at e ⊢
  rw [List.foldl_append, e, List.foldl_append]
/-- P29.5 -/
theorem law_begin (ms : List Int) (l : List RV) (x : RV) (h : x.kind = 1) : entS ms (l ++ [x]) = if hasS (entS ms l) (idC x.c) then entS ms l else entS ms l ++ [newS x] := by
  rw [entS_app]; unfold stepS; rw [if_pos h]
/-- P29.4: no orders -/
def plainL (l : List RV) : List RV := l.filter fun r => !decide (r.kind = 3)
theorem step_plain {ms ms' : List Int} {es : List Sx} {r : RV} (h : r.kind ≠ 3) : stepS ms es r = stepS ms' es r := by
  unfold stepS; rw [if_neg h, if_neg h]
theorem step_none {es : List Sx} {r : RV} (h : r.kind = 3) : stepS [] es r = es := by
  unfold stepS; rw [if_neg (by rw [h]; decide), if_pos h]; rfl
theorem law_plain (ms : List Int) (l : List RV) : entS ms (plainL l) = entS [] l := by
  have g : ∀ (l : List RV) (es : List Sx), (plainL l).foldl (stepS ms) es = l.foldl (stepS []) es := by
    intro l
    induction l with
    | nil => intro es; rfl
    | cons r l ih =>
      intro es
      unfold plainL at ih ⊢
      by_cases h : r.kind = 3
      · rw [List.filter_cons_of_neg (by simp [h]), List.foldl_cons, step_none h]; exact ih es
      · rw [List.filter_cons_of_pos (by simp [h]), List.foldl_cons, List.foldl_cons, step_plain (ms' := []) h]; exact ih _
  exact g l []
theorem plain_mem {l : List RV} {r : RV} (h : r ∈ plainL l) : r ∈ l ∧ r.kind ≠ 3 := by
  unfold plainL at h
  have := List.mem_filter.1 h
  exact ⟨this.1, by simpa using this.2⟩
theorem plain_take {l : List RV} {k : Nat} (h : k < l.length) : plainL (l.take (k + 1)) = plainL (l.take k) ++ (if l[k].kind = 3 then [] else [l[k]]) := by
  rw [List.take_succ_eq_append_getElem h]
  unfold plainL
  rw [List.filter_append]
  by_cases h3 : l[k].kind = 3 <;> simp [h3]
/-- no order: what is there stays -/
theorem fold_prefix {ms : List Int} : ∀ (l : List RV), (∀ r ∈ l, r.kind ≠ 3) → ∀ es, ∃ m, l.foldl (stepS ms) es = es ++ m
  | [], _, es => ⟨[], by simp⟩
  | r :: l, h, es => by
    have h3 := h r (by simp)
    obtain ⟨m, hm⟩ := fold_prefix (ms := ms) l (fun x hx => h x (by simp [hx])) (stepS ms es r)
    rw [List.foldl_cons, hm]
    unfold stepS
    rw [if_neg h3]
    split
    · split
      · exact ⟨m, rfl⟩
      · exact ⟨[newS r] ++ m, by rw [List.append_assoc]⟩
    · exact ⟨m, rfl⟩
theorem ent_prefix (ms : List Int) (l : List RV) (h : ∀ r ∈ l, r.kind ≠ 3) (k : Nat) : ∃ m, entS ms l = entS ms (l.take k) ++ m := by
  obtain ⟨m, hm⟩ := fold_prefix (ms := ms) (l.drop k) (fun r hr => h r (List.mem_of_mem_drop hr)) (entS ms (l.take k))
  refine ⟨m, ?_⟩
  conv => lhs; rw [← List.take_append_drop k l]
  unfold entS at hm ⊢
  rw [List.foldl_append]; exact hm
/-- the one that comes next -/
theorem plain_next (ms : List Int) (l : List RV) (h : ∀ r ∈ l, r.kind ≠ 3) {k : Nat} (hk : k < l.length) (h1 : l[k].kind = 1) (h2 : hasS (entS ms (l.take k)) (idC l[k].c) = false) :
    (entS ms l)[(entS ms (l.take k)).length]? = some (newS l[k]) ∧ entS ms (l.take (k + 1)) = entS ms (l.take k) ++ [newS l[k]] := by
  have e : entS ms (l.take (k + 1)) = entS ms (l.take k) ++ [newS l[k]] := by
    rw [entS_take ms l hk]; unfold stepS; rw [if_pos h1, if_neg (by rw [h2]; decide)]
  obtain ⟨m, hm⟩ := ent_prefix ms l h (k + 1)
  refine ⟨?_, e⟩
  rw [hm, e]; simp
theorem plain_same (ms : List Int) (l : List RV) (h : ∀ r ∈ l, r.kind ≠ 3) {k : Nat} (hk : k < l.length) (h1 : l[k].kind ≠ 1 ∨ hasS (entS ms (l.take k)) (idC l[k].c) = true) : entS ms (l.take (k + 1)) = entS ms (l.take k) := by
  rw [entS_take ms l hk]; unfold stepS
  rcases h1 with h1 | h1
  · rw [if_neg h1, if_neg (h _ (List.getElem_mem hk))]
  · rw [h1]; simp [h _ (List.getElem_mem hk)]
/-- statuses compared -/
def sameX (a b : Sx) : Bool := decide (a.id = b.id) && decide (a.st = b.st) && decide (a.by_ = b.by_) && all2 sameE (edsC a.cur.edits) (edsC b.cur.edits)
theorem sameX_refl (a : Sx) : sameX a a = true := by unfold sameX; simp [(all2_eq sameE_iff).2]
theorem sameXs_refl (l : List Sx) : all2 sameX l l = true := by
  induction l with
  | nil => rfl
  | cons a l ih => rw [all2, sameX_refl, ih]; rfl
end Go.Proofs.YtniklmikdkjgiaaGreatDoor
