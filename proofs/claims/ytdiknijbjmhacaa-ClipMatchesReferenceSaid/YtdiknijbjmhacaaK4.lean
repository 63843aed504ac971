/- PLAIN LAWS OF CLIPPING: the reference's way with lines; the corners. -/
import Derived.Test.YtdiknijbjmhacaaK3
set_option linter.unusedSimpArgs false
set_option linter.unusedVariables false
namespace Go.Proofs.Ytdiknijbjmhacaa.Cl

/-- the last part grows -/
def putLast (x : List Pt) : List (List Pt) → List (List Pt)
  | [] => []
  | [y] => [y ++ x]
  | y :: z :: r => y :: putLast x (z :: r)
theorem putLast_snoc (x : List Pt) (l : List (List Pt)) (a : List Pt) : putLast x (l ++ [a]) = l ++ [a ++ x] := by
  induction l with
  | nil => rfl
  | cons y l ih =>
    cases l with
    | nil => rfl
    | cons z r => simp only [List.cons_append, putLast] at ih ⊢; rw [ih]
/-- the reference's parts, from a point on -/
def refGo (b : Bx) : Bool → Pt → List Pt → List (List Pt) → List (List Pt)
  | _, _, [], parts => parts
  | first, p, q :: r, parts => refGo b false q r (if pcOk p q b then (if !first && inB p b then putLast [pcA p q b, pcB p q b] parts else parts ++ [[pcA p q b, pcB p q b]]) else parts)
theorem refGo_line (b : Bx) : ∀ (r : List Pt) (first : Bool) (p : Pt) (P : List (List Pt)) (now : List Pt), (first = true → P = [] ∧ now = []) → (first = false → inB p b = true → now ≠ []) →
    (refGo b first p r (if now = [] then P else P ++ [now])).flatMap fin = P.flatMap fin ++ lineGo b p r now := by
  intro r
  induction r with
  | nil =>
    intro first p P now _ _
    simp only [refGo, lineGo]
    split
    · rename_i h; subst h; simp [fin_nil]
    · simp
  | cons q r ih =>
    intro first p P now h1 h2
    simp only [refGo, lineGo]
    by_cases hp : inB p b = true
    · obtain ⟨ok, _⟩ := piece_p (q := q) hp
      rw [if_pos hp, if_pos ok]
      have ad : adP p q b = [pcA p q b, pcB p q b] := by unfold adP; rw [if_pos ok]
      cases first with
      | true =>
        obtain ⟨rfl, rfl⟩ := h1 rfl
        have := ih false q [] (adP p q b) (by simp) (fun _ _ => by rw [ad]; simp)
        rw [ad] at this ⊢
        simpa using this
      | false =>
        have hn := h2 rfl hp
        have := ih false q P (now ++ adP p q b) (by simp) (fun _ _ => by simp [hn])
        rw [ad] at this ⊢
        rw [if_neg (by simp [hn])] at this
        rw [if_pos (by simp [hp]), if_neg hn, putLast_snoc]
        exact this
    · rw [if_neg hp]
      have e : ∀ X Y : List (List Pt), (if (!first && inB p b) = true then X else Y) = Y := fun X Y => if_neg (by simp [hp])
      rw [e]
      have hP : (if now = [] then P else P ++ [now]).flatMap fin = P.flatMap fin ++ fin now := by
        split
        · rename_i h; subst h; simp [fin_nil]
        · simp
      by_cases ok : pcOk p q b = true
      · have ad : adP p q b = [pcA p q b, pcB p q b] := by unfold adP; rw [if_pos ok]
        have := ih false q (if now = [] then P else P ++ [now]) (adP p q b) (by simp) (fun _ _ => by rw [ad]; simp)
        rw [if_pos ok]
        rw [hP, ad, if_neg (by simp)] at this
        rw [ad, this, List.append_assoc]
      · have ad : adP p q b = [] := by unfold adP; rw [if_neg ok]
        have := ih false q (if now = [] then P else P ++ [now]) [] (by simp) (fun _ hq => absurd (piece_q (p := p) hq).1 ok)
        rw [if_neg ok]
        rw [hP, if_pos rfl] at this
        rw [ad, this, List.append_assoc]
/-- the reference's line is the program's -/
theorem ref_line (l : List Pt) (b : Bx) : lineF l b = (match l with | [] => [] | p :: r => refGo b true p r []).flatMap fin := by
  cases l with
  | nil => rfl
  | cons p r =>
    have := refGo_line b r true p [] [] (by simp) (by simp)
    simpa [lineF] using this.symm

/-- points that occur in order, two equal ones in one place perhaps -/
def Wk : List Pt → List Pt → Prop
  | _, [] => True
  | l, x :: xs => ∃ pre suf, l = pre ++ x :: suf ∧ Wk (x :: suf) xs
theorem Wk.pre {l xs : List Pt} (h : Wk l xs) (m : List Pt) : Wk (m ++ l) xs := by
  cases xs with
  | nil => trivial
  | cons x xs =>
    obtain ⟨pre, suf, e, h2⟩ := h
    exact ⟨m ++ pre, suf, by rw [e, List.append_assoc], h2⟩
theorem Wk.suf {l xs : List Pt} (h : Wk l xs) (m : List Pt) : Wk (l ++ m) xs := by
  induction xs generalizing l with
  | nil => trivial
  | cons x xs ih =>
    obtain ⟨pre, suf, e, h2⟩ := h
    exact ⟨pre, suf ++ m, by rw [e]; simp, by simpa using ih h2⟩
theorem Wk.snoc {l xs : List Pt} (h : Wk l xs) (m : List Pt) (y : Pt) (hy : y ∈ m ∨ (∃ l', l = l' ++ [y])) : Wk (l ++ m) (xs ++ [y]) := by
  induction xs generalizing l with
  | nil =>
    rcases hy with hy | ⟨l', rfl⟩
    · obtain ⟨a, c, e⟩ := List.append_of_mem hy
      exact ⟨l ++ a, c, by rw [e]; simp, trivial⟩
    · exact ⟨l', m, by simp, trivial⟩
  | cons x xs ih =>
    obtain ⟨pre, suf, e, h2⟩ := h
    refine ⟨pre, suf ++ m, by rw [e]; simp, ?_⟩
    have := ih h2 (by
      rcases hy with hy | ⟨l', hl⟩
      · exact .inl hy
      · right
        rw [e] at hl
        have h3 : (x :: suf).getLast? = some y := by
          have := congrArg List.getLast? hl
          rw [List.getLast?_append, List.getLast?_append] at this
          simpa using this
        obtain ⟨ys, e3⟩ := List.getLast?_eq_some_iff.1 h3
        exact ⟨ys, e3⟩)
    simpa using this
theorem cmpT_split (x y : Pt) (pre suf : List Pt) : ∃ p', x :: cmpT x (pre ++ y :: suf) = p' ++ y :: cmpT y suf := by
  induction pre generalizing x with
  | nil =>
    simp only [List.nil_append, cmpT]
    split
    · rename_i h; subst h; exact ⟨[], rfl⟩
    · exact ⟨[x], rfl⟩
  | cons z pre ih =>
    simp only [List.cons_append, cmpT]
    split
    · exact ih x
    · obtain ⟨p', e⟩ := ih z
      exact ⟨x :: p', by rw [e]; rfl⟩
theorem Wk.cmp {l xs : List Pt} (h : Wk l xs) : Wk (cmpF l) xs := by
  induction xs generalizing l with
  | nil => trivial
  | cons x xs ih =>
    obtain ⟨pre, suf, rfl, h2⟩ := h
    have h3 := ih h2
    cases pre with
    | nil => exact ⟨[], cmpT x suf, rfl, h3⟩
    | cons z pre =>
      obtain ⟨p', e⟩ := cmpT_split z x pre suf
      exact ⟨p', cmpT x suf, e, h3⟩
end Go.Proofs.Ytdiknijbjmhacaa.Cl
