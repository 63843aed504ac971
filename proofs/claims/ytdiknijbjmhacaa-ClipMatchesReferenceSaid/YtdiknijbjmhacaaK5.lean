/- PLAIN LAWS OF CLIPPING: the corners of a line; lines beyond a side. -/
import Derived.Test.YtdiknijbjmhacaaK4
set_option linter.unusedSimpArgs false
set_option linter.unusedVariables false
namespace Go.Proofs.Ytdiknijbjmhacaa.Cl

theorem Wk.skip {y x : Pt} {l xs : List Pt} (h : Wk (y :: l) (x :: xs)) (hn : y ≠ x) : Wk l (x :: xs) := by
  obtain ⟨pre, suf, e, h2⟩ := h
  cases pre with
  | nil => simp at e; exact absurd e.1 hn
  | cons z pre => simp at e; exact ⟨pre, suf, e.2, h2⟩
theorem Wk.hit {x : Pt} {l xs : List Pt} (h : Wk l (x :: xs)) : Wk l xs := by
  obtain ⟨pre, suf, rfl, h2⟩ := h
  exact h2.pre pre
theorem Wk.none {x : Pt} {xs : List Pt} (h : Wk [] (x :: xs)) : False := by
  obtain ⟨pre, suf, e, _⟩ := h
  simp at e
theorem Wk.app {a c xs ys : List Pt} (h : Wk a xs) (k : Wk c ys) : Wk (a ++ c) (xs ++ ys) := by
  induction xs generalizing a with
  | nil => exact k.pre a
  | cons x xs ih =>
    obtain ⟨pre, suf, rfl, h2⟩ := h
    exact ⟨pre, suf ++ c, by simp, by simpa using ih h2⟩
theorem mem_cmpT {x y : Pt} {l : List Pt} (h : y ∈ l) : y = x ∨ y ∈ cmpT x l := by
  induction l generalizing x with
  | nil => cases h
  | cons z r ih =>
    simp only [cmpT]
    rcases List.mem_cons.1 h with rfl | h
    · by_cases e : y = x
      · exact .inl e
      · rw [if_neg e]; exact .inr List.mem_cons_self
    · split
      · exact ih h
      · rcases ih (x := z) h with rfl | h
        · exact .inr List.mem_cons_self
        · exact .inr (List.mem_cons_of_mem _ h)
theorem mem_cmpF {y : Pt} {l : List Pt} (h : y ∈ l) : y ∈ cmpF l := by
  cases l with
  | nil => cases h
  | cons x r =>
    rcases List.mem_cons.1 h with rfl | h
    · exact List.mem_cons_self
    · rcases mem_cmpT (x := x) h with rfl | h
      · exact List.mem_cons_self
      · exact List.mem_cons_of_mem _ h
theorem two_len {l : List Pt} (h : ∃ u ∈ l, ∃ v ∈ l, u ≠ v) : fin l = [cmpF l] := by
  obtain ⟨u, hu, v, hv, hn⟩ := h
  have h1 := mem_cmpF hu
  have h2 := mem_cmpF hv
  unfold fin
  rw [if_pos]
  match hc : cmpF l with
  | [] => rw [hc] at h1; cases h1
  | [a] =>
    rw [hc] at h1 h2
    simp at h1 h2
    exact absurd (h1.trans h2.symm) hn
  | _ :: _ :: _ => simp

/-- is a point alone, as far as the point before it says? -/
def al (b : Bx) (o : Option Pt) (p : Pt) : Bool := match o with
  | none => true
  | some o => decide (pcA o p b = p)
/-- the points that are to be found -/
def rel (b : Bx) : Option Pt → Pt → List Pt → List Pt
  | o, p, [] => if inB p b && !al b o p then [p] else []
  | o, p, q :: r => (if inB p b && !(al b o p && decide (pcB p q b = p)) then [p] else []) ++ rel b (some p) q r

theorem corners (b : Bx) : ∀ (r : List Pt) (o : Option Pt) (p : Pt) (now xs : List Pt),
    (inB p b = true → match o with | none => now = [] | some o => ∃ l', now = l' ++ [pcA o p b, p]) → Wk now xs → (xs ≠ [] → ∃ u ∈ now, ∃ v ∈ now, u ≠ v) →
    Wk (lineGo b p r now).flatten (xs ++ rel b o p r) := by
  intro r
  induction r with
  | nil =>
    intro o p now xs h1 h2 h3
    simp only [lineGo, rel]
    have old : Wk (fin now).flatten xs := by
      by_cases hx : xs = []
      · subst hx; trivial
      · rw [two_len (h3 hx)]; simpa using h2.cmp
    by_cases hr : (inB p b && !al b o p) = true
    · rw [if_pos hr]
      simp only [Bool.and_eq_true, Bool.not_eq_true'] at hr
      have h4 := h1 hr.1
      cases o with
      | none => simp [al] at hr
      | some o =>
        obtain ⟨l', e⟩ := h4
        have hne : pcA o p b ≠ p := by simpa [al] using hr.2
        have htwo : ∃ u ∈ now, ∃ v ∈ now, u ≠ v := ⟨pcA o p b, by rw [e]; simp, p, by rw [e]; simp, hne⟩
        rw [two_len htwo]
        have := (h2.snoc [] p (.inr ⟨l' ++ [pcA o p b], by rw [e]; simp⟩)).cmp
        simpa using this
    · rw [if_neg hr, List.append_nil]; exact old
  | cons q r ih =>
    intro o p now xs h1 h2 h3
    simp only [lineGo, rel]
    by_cases hp : inB p b = true
    · obtain ⟨ok, pa⟩ := piece_p (q := q) hp
      rw [if_pos hp]
      have ad : adP p q b = [p, pcB p q b] := by unfold adP; rw [if_pos ok, pa]
      have hn : inB q b = true → ∃ l', now ++ adP p q b = l' ++ [pcA p q b, q] := fun hq => ⟨now, by rw [ad, pa, (piece_q (p := p) hq).2]⟩
      rw [← List.append_assoc]
      by_cases hr : (inB p b && !(al b o p && decide (pcB p q b = p))) = true
      · rw [if_pos hr]
        refine ih (some p) q (now ++ adP p q b) (xs ++ [p]) hn (h2.snoc _ p (.inl (by rw [ad]; simp))) (fun _ => ?_)
        by_cases hB : pcB p q b = p
        · have hr2 : al b o p = false := by simpa [hp, hB] using hr
          cases o with
          | none => simp [al] at hr2
          | some o =>
            obtain ⟨l', e⟩ := h1 hp
            exact ⟨pcA o p b, by rw [e]; simp, p, by rw [ad]; simp, by simpa [al] using hr2⟩
        · exact ⟨pcB p q b, by rw [ad]; simp, p, by rw [ad]; simp, hB⟩
      · rw [if_neg hr, List.append_nil]
        refine ih (some p) q (now ++ adP p q b) xs hn (h2.suf _) (fun hx => ?_)
        obtain ⟨u, hu, v, hv, hne⟩ := h3 hx
        exact ⟨u, List.mem_append.2 (.inl hu), v, List.mem_append.2 (.inl hv), hne⟩
    · rw [if_neg hp]
      have e : (inB p b && !(al b o p && decide (pcB p q b = p))) = false := by simp [hp]
      rw [e]
      simp only [Bool.false_eq_true, if_false, List.nil_append, List.flatten_append]
      have new := ih (some p) q (adP p q b) [] (fun hq => ⟨[], by unfold adP; rw [if_pos (piece_q (p := p) hq).1, (piece_q (p := p) hq).2]; rfl⟩) trivial (fun h => absurd rfl h)
      rw [List.nil_append] at new
      refine Wk.app ?_ new
      by_cases hx : xs = []
      · subst hx; trivial
      · rw [two_len (h3 hx)]; simpa using h2.cmp
/-- the corners that are to be found occur in the parts in order -/
theorem corners_line (p : Pt) (r : List Pt) (b : Bx) : Wk (lineF (p :: r) b).flatten (rel b none p r) := by
  have := corners b r none p [] [] (fun _ => rfl) trivial (fun h => absurd rfl h)
  simpa [lineF] using this

/-- beyond one side: no piece -/
def out4 (p : Pt) (b : Bx) (k : Nat) : Prop := match k with
  | 0 => p.1 < b.x0
  | 1 => b.x1 < p.1
  | 2 => p.2 < b.y0
  | _ => b.y1 < p.2
theorem beyond' {f d hi : Int} {r : Rt} (hr : 0 < r.d) (h0 : rle ⟨0, 1⟩ r) (h1 : rle r ⟨1, 1⟩) (a : hi < f) (c : hi < f + d) : ¬ f * r.d + r.n * d ≤ hi * r.d := by
  have := beyond (f := -f) (d := -d) (lo := -hi) hr h0 h1 (by omega) (by omega)
  intro h
  apply this
  rw [Int.neg_mul, Int.neg_mul, Int.mul_neg]
  omega
theorem piece_beyond {p q : Pt} {b : Bx} {k : Nat} (hp : out4 p b k) (hq : out4 q b k) : pcOk p q b = false := by
  cases h : pcOk p q b with
  | false => rfl
  | true =>
    exfalso
    obtain ⟨h1, h2, h3, h4, h5⟩ := piece_spec h _ (.inl rfl)
    unfold out4 at hp hq
    split at hp
    · exact beyond h1 h2 h3 hp (by simp only at hq; omega) h4.1
    · exact beyond' h1 h2 h3 hp (by simp only at hq; omega) h4.2
    · exact beyond h1 h2 h3 hp (by simp only at hq; omega) h5.1
    · rename_i n0 n1 n2
      split at hq
      · exact absurd rfl (n0)
      · exact absurd rfl (n1)
      · exact absurd rfl (n2)
      · exact beyond' h1 h2 h3 hp (by omega) h5.2
theorem lineF_beyond {l : List Pt} {b : Bx} {k : Nat} (h : ∀ p ∈ l, out4 p b k) : lineF l b = [] := by
  cases l with
  | nil => rfl
  | cons p r => exact lineGo_none r p (fun x hx y hy => piece_beyond (h x hx) (h y hy))
end Go.Proofs.Ytdiknijbjmhacaa.Cl
