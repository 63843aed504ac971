/- PLAIN LAWS OF CLIPPING: lines. -/
import Derived.Test.YtdiknijbjmhacaaK1
set_option linter.unusedSimpArgs false
set_option linter.unusedVariables false
namespace Go.Proofs.Ytdiknijbjmhacaa.Cl

/-- without elements that are equal to the one before them -/
def cmpT : Pt → List Pt → List Pt
  | _, [] => []
  | x, y :: r => if y = x then cmpT x r else y :: cmpT y r
def cmpF : List Pt → List Pt
  | [] => []
  | x :: r => x :: cmpT x r
/-- a part, if it has two points -/
def fin (now : List Pt) : List (List Pt) := if 1 < (cmpF now).length then [cmpF now] else []
def adP (p q : Pt) (b : Bx) : List Pt := if pcOk p q b then [pcA p q b, pcB p q b] else []
/-- the parts of a line from a point on; 'now' is what has been gathered -/
def lineGo (b : Bx) : Pt → List Pt → List Pt → List (List Pt)
  | _, [], now => fin now
  | p, q :: r, now => if inB p b then lineGo b q r (now ++ adP p q b) else fin now ++ lineGo b q r (adP p q b)
def lineF (l : List Pt) (b : Bx) : List (List Pt) := match l with
  | [] => []
  | p :: r => lineGo b p r []

theorem cmpT_mem {x : Pt} {l : List Pt} {y : Pt} (h : y ∈ cmpT x l) : y ∈ l := by
  induction l generalizing x with
  | nil => cases h
  | cons z r ih =>
    simp only [cmpT] at h
    split at h
    · exact List.mem_cons_of_mem _ (ih h)
    · rcases List.mem_cons.1 h with rfl | h
      · exact List.mem_cons_self
      · exact List.mem_cons_of_mem _ (ih h)
theorem cmpF_mem {l : List Pt} {y : Pt} (h : y ∈ cmpF l) : y ∈ l := by
  cases l with
  | nil => cases h
  | cons x r =>
    rcases List.mem_cons.1 h with rfl | h
    · exact List.mem_cons_self
    · exact List.mem_cons_of_mem _ (cmpT_mem h)
/-- neighbours are different -/
def Dif : List Pt → Prop
  | [] => True
  | [_] => True
  | x :: y :: r => x ≠ y ∧ Dif (y :: r)
theorem cmpT_dif (x : Pt) (l : List Pt) : Dif (x :: cmpT x l) := by
  induction l generalizing x with
  | nil => trivial
  | cons y r ih =>
    simp only [cmpT]
    split
    · exact ih x
    · rename_i h; exact ⟨fun e => h e.symm, ih y⟩
theorem cmpF_dif (l : List Pt) : Dif (cmpF l) := by
  cases l with
  | nil => trivial
  | cons x r => exact cmpT_dif x r
theorem cmpT_self {x : Pt} {l : List Pt} (h : Dif (x :: l)) : cmpT x l = l := by
  induction l generalizing x with
  | nil => rfl
  | cons y r ih =>
    obtain ⟨h1, h2⟩ := h
    simp only [cmpT]
    rw [if_neg (fun e => h1 e.symm), ih h2]
theorem cmpF_self {l : List Pt} (h : Dif l) : cmpF l = l := by
  cases l with
  | nil => rfl
  | cons x r => simp only [cmpF]; rw [cmpT_self h]

/-- the parts' points are in the box; neighbours are different; a part has two points -/
theorem adP_in {p q : Pt} {b : Bx} : ∀ x ∈ adP p q b, inB x b = true := by
  intro x hx
  unfold adP at hx
  split at hx
  · rename_i h
    obtain ⟨h1, h2⟩ := piece_in h
    simp at hx
    rcases hx with rfl | rfl
    · exact h1
    · exact h2
  · cases hx
def Good (b : Bx) (x : List Pt) : Prop := 2 ≤ x.length ∧ (∀ p ∈ x, inB p b = true) ∧ Dif x
theorem fin_good {b : Bx} {now : List Pt} (h : ∀ p ∈ now, inB p b = true) : ∀ x ∈ fin now, Good b x := by
  intro x hx
  unfold fin at hx
  split at hx
  · rename_i hl
    simp at hx; subst hx
    exact ⟨hl, fun p hp => h p (cmpF_mem hp), cmpF_dif _⟩
  · cases hx
theorem lineGo_good (b : Bx) : ∀ (r : List Pt) (p : Pt) (now : List Pt), (∀ x ∈ now, inB x b = true) → ∀ x ∈ lineGo b p r now, Good b x := by
  intro r
  induction r with
  | nil => intro p now h; exact fin_good h
  | cons q r ih =>
    intro p now h x hx
    simp only [lineGo] at hx
    split at hx
    · exact ih q _ (fun y hy => by
        rcases List.mem_append.1 hy with hy | hy
        · exact h y hy
        · exact adP_in y hy) x hx
    · rcases List.mem_append.1 hx with hx | hx
      · exact fin_good h x hx
      · exact ih q _ adP_in x hx
theorem lineF_good (l : List Pt) (b : Bx) : ∀ x ∈ lineF l b, Good b x := by
  cases l with
  | nil => intro x hx; cases hx
  | cons p r => exact lineGo_good b r p [] (by intro x hx; cases hx)

/-- a line that lies in the box is its own part -/
theorem cmpT_append_eq (x : Pt) (l m : List Pt) : ∃ y, cmpT x (l ++ m) = cmpT x l ++ cmpT y m ∧ (y = (x :: l).getLast (by simp)) := by
  induction l generalizing x with
  | nil => exact ⟨x, rfl, rfl⟩
  | cons z r ih =>
    simp only [List.cons_append, cmpT]
    by_cases h : z = x
    · subst h
      rw [if_pos rfl, if_pos rfl]
      obtain ⟨y, e1, e2⟩ := ih z
      exact ⟨y, e1, by rw [e2]; simp⟩
    · rw [if_neg h, if_neg h]
      obtain ⟨y, e1, e2⟩ := ih z
      exact ⟨y, by rw [e1]; rfl, by rw [e2]; simp⟩
/-- all points that the pieces of a line in the box give -/
def ads : Pt → List Pt → List Pt
  | _, [] => []
  | p, q :: r => p :: q :: ads q r
theorem lineGo_inside {b : Bx} : ∀ (r : List Pt) (p : Pt) (now : List Pt), (∀ x ∈ p :: r, inB x b = true) → lineGo b p r now = fin (now ++ ads p r) := by
  intro r
  induction r with
  | nil => intro p now _; simp [lineGo, ads]
  | cons q r ih =>
    intro p now h
    have hp := h p (by simp)
    have hq := h q (by simp)
    obtain ⟨a1, a2⟩ := piece_p (q := q) hp
    obtain ⟨_, c2⟩ := piece_q (p := p) hq
    simp only [lineGo]
    rw [if_pos hp, ih q _ (fun x hx => h x (List.mem_cons_of_mem _ hx))]
    unfold adP
    rw [if_pos a1, a2, c2]
    simp [ads]
theorem cmpT_ads : ∀ (r : List Pt) (p : Pt), cmpT p (ads p r) = cmpT p r := by
  intro r
  induction r with
  | nil => intro p; rfl
  | cons q r ih =>
    intro p
    simp only [ads, cmpT]
    rw [if_pos trivial]
    by_cases h : q = p
    · subst h; rw [if_pos rfl, if_pos rfl, ih]
    · rw [if_neg h, if_neg h, ih]
theorem lineF_inside {l : List Pt} {b : Bx} (h : ∀ x ∈ l, inB x b = true) : lineF l b = fin l := by
  cases l with
  | nil => rfl
  | cons p r =>
    simp only [lineF]
    rw [lineGo_inside r p [] h, List.nil_append]
    cases r with
    | nil => rfl
    | cons q r =>
      have e : cmpF (ads p (q :: r)) = cmpF (p :: q :: r) := by
        have := cmpT_ads (q :: r) p
        simp only [ads, cmpT] at this
        rw [if_pos trivial] at this
        simp only [ads, cmpF, cmpT]
        rw [this]
      unfold fin
      rw [e]
theorem fin_dif {l : List Pt} (h : Dif l) (h2 : 2 ≤ l.length) : fin l = [l] := by
  unfold fin
  rw [cmpF_self h, if_pos (by omega)]
/-- parts of parts are the same -/
theorem lineF_again {l x : List Pt} {b : Bx} (h : x ∈ lineF l b) : lineF x b = [x] := by
  obtain ⟨h1, h2, h3⟩ := lineF_good l b x h
  rw [lineF_inside h2, fin_dif h3 h1]

/-- no piece, no part -/
theorem lineGo_none {b : Bx} : ∀ (r : List Pt) (p : Pt), (∀ x ∈ p :: r, ∀ y ∈ p :: r, pcOk x y b = false) → lineGo b p r [] = [] := by
  intro r
  induction r with
  | nil => intro p _; rfl
  | cons q r ih =>
    intro p h
    have e : adP p q b = [] := by unfold adP; rw [h p (by simp) q (by simp)]; rfl
    have := ih q (fun x hx y hy => h x (List.mem_cons_of_mem _ hx) y (List.mem_cons_of_mem _ hy))
    simp only [lineGo]
    rw [e]
    split
    · exact this
    · rw [this]; rfl

/-- moved -/
theorem mvP_inj {m x y : Pt} : mvP m x = mvP m y ↔ x = y := by
  constructor
  · intro h
    unfold mvP at h
    have h1 := congrArg Prod.fst h
    have h2 := congrArg Prod.snd h
    simp only at h1 h2
    exact Prod.ext (by omega) (by omega)
  · rintro rfl; rfl
theorem cmpT_mv (m : Pt) : ∀ (l : List Pt) (x : Pt), cmpT (mvP m x) (l.map (mvP m)) = (cmpT x l).map (mvP m) := by
  intro l
  induction l with
  | nil => intro x; rfl
  | cons y r ih =>
    intro x
    simp only [List.map_cons, cmpT, mvP_inj]
    split
    · exact ih x
    · rw [ih y]; rfl
theorem cmpF_mv (m : Pt) (l : List Pt) : cmpF (l.map (mvP m)) = (cmpF l).map (mvP m) := by
  cases l with
  | nil => rfl
  | cons x r => simp only [List.map_cons, cmpF, cmpT_mv]
theorem fin_mv (m : Pt) (l : List Pt) : fin (l.map (mvP m)) = (fin l).map (List.map (mvP m)) := by
  unfold fin
  rw [cmpF_mv]
  simp only [List.length_map]
  split <;> rfl
theorem adP_mv (p q m : Pt) (b : Bx) : adP (mvP m p) (mvP m q) (mvB m b) = (adP p q b).map (mvP m) := by
  obtain ⟨h1, h2, h3⟩ := piece_mv p q m b
  unfold adP
  rw [h1, h2, h3]
  split <;> rfl
theorem lineGo_mv (m : Pt) (b : Bx) : ∀ (r : List Pt) (p : Pt) (now : List Pt), lineGo (mvB m b) (mvP m p) (r.map (mvP m)) (now.map (mvP m)) = (lineGo b p r now).map (List.map (mvP m)) := by
  intro r
  induction r with
  | nil => intro p now; exact fin_mv m now
  | cons q r ih =>
    intro p now
    simp only [List.map_cons, lineGo, inB_mv, adP_mv, fin_mv]
    split
    · rw [← List.map_append, ih]
    · rw [ih, List.map_append]
theorem lineF_mv (m : Pt) (l : List Pt) (b : Bx) : lineF (l.map (mvP m)) (mvB m b) = (lineF l b).map (List.map (mvP m)) := by
  cases l with
  | nil => rfl
  | cons p r => exact lineGo_mv m b r p []
end Go.Proofs.Ytdiknijbjmhacaa.Cl
