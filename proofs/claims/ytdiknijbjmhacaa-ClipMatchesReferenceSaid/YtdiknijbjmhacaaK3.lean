/- PLAIN LAWS OF CLIPPING: a line backwards. -/
import Derived.Test.YtdiknijbjmhacaaK2
set_option linter.unusedSimpArgs false
set_option linter.unusedVariables false
namespace Go.Proofs.Ytdiknijbjmhacaa.Cl

theorem cmpF_cons2 (x y : Pt) (r : List Pt) : cmpF (x :: y :: r) = if y = x then cmpF (y :: r) else x :: cmpF (y :: r) := by
  simp only [cmpF, cmpT]
  split
  · rename_i h; subst h; rfl
  · rfl
theorem cmpF_snoc (l : List Pt) (z : Pt) : cmpF (l ++ [z]) = if l.getLast? = some z then cmpF l else cmpF l ++ [z] := by
  cases l with
  | nil => rfl
  | cons x r =>
    obtain ⟨y, e1, e2⟩ := cmpT_append_eq x r [z]
    simp only [List.cons_append, cmpF]
    rw [e1]
    have e3 : (x :: r).getLast? = some y := by rw [List.getLast?_eq_some_getLast (by simp), e2]
    rw [e3]
    simp only [cmpT, Option.some.injEq]
    by_cases h : z = y
    · subst h; rw [if_pos rfl, if_pos rfl, List.append_nil]
    · rw [if_neg h, if_neg (fun e => h e.symm)]
theorem cmpF_rev (l : List Pt) : cmpF l.reverse = (cmpF l).reverse := by
  induction l with
  | nil => rfl
  | cons x l ih =>
    rw [List.reverse_cons, cmpF_snoc, ih, List.getLast?_reverse]
    cases l with
    | nil => rfl
    | cons y r =>
      rw [cmpF_cons2]
      simp only [List.head?_cons, Option.some.injEq]
      split
      · rfl
      · rw [List.reverse_cons]
theorem fin_rev (l : List Pt) : fin l.reverse = (fin l).map List.reverse := by
  unfold fin
  rw [cmpF_rev, List.length_reverse]
  split <;> rfl
theorem adP_rev (p q : Pt) (b : Bx) : adP q p b = (adP p q b).reverse := by
  obtain ⟨h1, h2, h3⟩ := piece_flip p q b
  unfold adP
  rw [h1, h2, h3]
  split <;> rfl

/-- the points with cuts between them -/
def J (b : Bx) (p : Pt) : List (Option Pt) := if inB p b then [] else [none]
def T (b : Bx) : Pt → List Pt → List (Option Pt)
  | p, [] => J b p
  | p, q :: r => J b p ++ ((adP p q b).map some ++ T b q r)
def TT (b : Bx) : List Pt → List (Option Pt)
  | [] => []
  | p :: r => T b p r
def put (x : Pt) : List (List Pt) → List (List Pt)
  | [] => [[x]]
  | y :: ys => (x :: y) :: ys
def g : List (Option Pt) → List (List Pt)
  | [] => [[]]
  | none :: t => [] :: g t
  | some x :: t => put x (g t)
theorem g_ne (t : List (Option Pt)) : ∃ y ys, g t = y :: ys := by
  induction t with
  | nil => exact ⟨[], [], rfl⟩
  | cons o t ih =>
    obtain ⟨y, ys, e⟩ := ih
    cases o with
    | none => exact ⟨[], g t, rfl⟩
    | some x => exact ⟨x :: y, ys, by simp only [g]; rw [e]; rfl⟩
theorem g_app (l : List Pt) (t : List (Option Pt)) {y : List Pt} {ys : List (List Pt)} (e : g t = y :: ys) : g (l.map some ++ t) = (l ++ y) :: ys := by
  induction l with
  | nil => exact e
  | cons x l ih => simp only [List.map_cons, List.cons_append, g]; rw [ih]; rfl
theorem fin_nil : fin [] = [] := rfl
theorem lineGo_g (b : Bx) : ∀ (r : List Pt) (p : Pt) (now : List Pt) (y : List Pt) (ys : List (List Pt)), g (T b p r) = y :: ys → lineGo b p r now = fin (now ++ y) ++ ys.flatMap fin := by
  intro r
  induction r with
  | nil =>
    intro p now y ys e
    unfold T J at e
    simp only [lineGo]
    split at e
    · cases e; simp
    · cases e; simp [fin_nil, g]
  | cons q r ih =>
    intro p now y ys e
    obtain ⟨z, zs, e2⟩ := g_ne (T b q r)
    have e3 := g_app (adP p q b) (T b q r) e2
    simp only [T] at e
    simp only [lineGo]
    unfold J at e
    by_cases h : inB p b = true
    · rw [if_pos h] at e ⊢
      rw [List.nil_append, e3] at e
      have h1 := List.cons.inj e
      rw [ih q _ z zs e2, List.append_assoc, ← h1.1, ← h1.2]
    · rw [if_neg h] at e ⊢
      simp only [List.cons_append, List.nil_append, g] at e
      rw [e3] at e
      have h1 := List.cons.inj e
      rw [ih q _ z zs e2, ← h1.1, ← h1.2]
      simp
theorem lineF_g (l : List Pt) (b : Bx) : lineF l b = (g (TT b l)).flatMap fin := by
  cases l with
  | nil => rfl
  | cons p r =>
    obtain ⟨y, ys, e⟩ := g_ne (T b p r)
    simp only [lineF, TT]
    rw [lineGo_g b r p [] y ys e, e]; rfl

theorem J_rev (b : Bx) (p : Pt) : (J b p).reverse = J b p := by unfold J; split <;> rfl
theorem T_snoc (b : Bx) : ∀ (r : List Pt) (p z : Pt), T b p (r ++ [z]) = T b p r ++ ((adP ((p :: r).getLast (by simp)) z b).map some ++ J b z) := by
  intro r
  induction r with
  | nil => intro p z; simp [T]
  | cons q r ih =>
    intro p z
    simp only [List.cons_append, T]
    rw [ih q z]
    simp [List.append_assoc]
theorem TT_rev (b : Bx) (l : List Pt) : TT b l.reverse = (TT b l).reverse := by
  induction l with
  | nil => rfl
  | cons p r ih =>
    cases r with
    | nil => simp [TT, T, J_rev]
    | cons q r =>
      obtain ⟨x, xs, e⟩ : ∃ x xs, (q :: r).reverse = x :: xs := by
        cases h : (q :: r).reverse with
        | nil => simp at h
        | cons x xs => exact ⟨x, xs, rfl⟩
      have hl : (x :: xs).getLast (by simp) = q := by
        have : (x :: xs).getLast? = some q := by rw [← e, List.getLast?_reverse]; rfl
        rw [List.getLast?_eq_some_getLast (by simp)] at this
        exact Option.some.inj this
      rw [List.reverse_cons, e]
      rw [e] at ih
      simp only [TT, List.cons_append] at ih ⊢
      rw [T_snoc, hl, ih]
      simp only [T, List.reverse_append, J_rev, ← List.map_reverse]
      rw [adP_rev p q b, List.append_assoc]

def mapLast (f : List Pt → List Pt) : List (List Pt) → List (List Pt)
  | [] => []
  | [y] => [f y]
  | y :: z :: r => y :: mapLast f (z :: r)
theorem mapLast_snoc (f : List Pt → List Pt) (l : List (List Pt)) (a : List Pt) : mapLast f (l ++ [a]) = l ++ [f a] := by
  induction l with
  | nil => rfl
  | cons y l ih =>
    cases l with
    | nil => rfl
    | cons z r => simp only [List.cons_append, mapLast] at ih ⊢; rw [ih]
theorem g_snoc_none (t : List (Option Pt)) : g (t ++ [none]) = g t ++ [[]] := by
  induction t with
  | nil => rfl
  | cons o t ih =>
    cases o with
    | none => simp only [List.cons_append, g]; rw [ih]
    | some x =>
      obtain ⟨y, ys, e⟩ := g_ne t
      simp only [List.cons_append, g]
      rw [ih, e]; rfl
theorem g_snoc_some (t : List (Option Pt)) (x : Pt) : g (t ++ [some x]) = mapLast (· ++ [x]) (g t) := by
  induction t with
  | nil => rfl
  | cons o t ih =>
    obtain ⟨y, ys, e⟩ := g_ne t
    cases o with
    | none => simp only [List.cons_append, g]; rw [ih, e]; rfl
    | some z =>
      simp only [List.cons_append, g]
      rw [ih, e]
      cases ys <;> rfl
theorem g_rev (t : List (Option Pt)) : g t.reverse = (g t).reverse.map List.reverse := by
  induction t with
  | nil => rfl
  | cons o t ih =>
    rw [List.reverse_cons]
    cases o with
    | none => rw [g_snoc_none, ih]; simp [g]
    | some x =>
      obtain ⟨y, ys, e⟩ := g_ne t
      rw [g_snoc_some, ih]
      simp only [g]
      rw [e]
      simp only [put, List.reverse_cons, List.map_append, List.map_cons, List.map_nil]
      rw [mapLast_snoc]
theorem flatMap_rev (l : List (List Pt)) : (l.reverse.map List.reverse).flatMap fin = (l.flatMap fin).reverse.map List.reverse := by
  induction l with
  | nil => rfl
  | cons y l ih =>
    rw [List.reverse_cons, List.map_append, List.flatMap_append, ih]
    simp only [List.map_cons, List.map_nil, List.flatMap_cons, List.flatMap_nil, List.append_nil, List.reverse_append, List.map_append, fin_rev]
    congr 1
    unfold fin
    split <;> rfl
/-- a line backwards has its parts backwards -/
theorem lineF_rev (l : List Pt) (b : Bx) : lineF l.reverse b = (lineF l b).reverse.map List.reverse := by
  rw [lineF_g, lineF_g, TT_rev, g_rev, flatMap_rev]
end Go.Proofs.Ytdiknijbjmhacaa.Cl
