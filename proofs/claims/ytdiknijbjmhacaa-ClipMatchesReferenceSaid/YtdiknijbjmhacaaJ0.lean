/- PLAIN LAWS: parts of parts; how long parts are. -/
import Derived.Test.YtdiknijbjmhacaaH1
set_option linter.unusedSimpArgs false
set_option linter.unusedVariables false
namespace Go.Proofs.Ytdiknijbjmhacaa
open Go.RowKit

theorem adP_len (p q : Cl.Pt) (b : Cl.Bx) : (Cl.adP p q b).length ≤ 2 := by unfold Cl.adP; split <;> simp
theorem fin_mem_len {l x : List Cl.Pt} (h : x ∈ Cl.fin l) : x.length ≤ l.length := by
  unfold Cl.fin at h
  split at h
  · simp at h; subst h; exact Cl.cmp_len1 l
  · cases h
theorem lineGo_len (b : Cl.Bx) : ∀ (r : List Cl.Pt) (p : Cl.Pt) (now : List Cl.Pt), (∀ x ∈ Cl.lineGo b p r now, x.length ≤ now.length + 2 * r.length) ∧ (Cl.lineGo b p r now).length ≤ 1 + r.length
  | [], p, now => ⟨fun x hx => by have := fin_mem_len hx; simpa using this, by have := fin_len now; simpa [Cl.lineGo] using this⟩
  | q :: r, p, now => by
    have hl := adP_len p q b
    have hf := fin_len now
    simp only [Cl.lineGo]
    split
    · obtain ⟨h1, h2⟩ := lineGo_len b r q (now ++ Cl.adP p q b)
      refine ⟨fun x hx => ?_, ?_⟩
      · have := h1 x hx; rw [List.length_append] at this; simp only [List.length_cons]; omega
      · simp only [List.length_cons]; omega
    · obtain ⟨h1, h2⟩ := lineGo_len b r q (Cl.adP p q b)
      refine ⟨fun x hx => ?_, ?_⟩
      · rcases List.mem_append.1 hx with hx | hx
        · have := fin_mem_len hx; simp only [List.length_cons]; omega
        · have := h1 x hx; simp only [List.length_cons]; omega
      · rw [List.length_append]; simp only [List.length_cons]; omega
theorem lineF_len (l : List Cl.Pt) (b : Cl.Bx) : (∀ x ∈ Cl.lineF l b, x.length ≤ 2 * l.length) ∧ (Cl.lineF l b).length ≤ l.length := by
  cases l with
  | nil => exact ⟨(fun x hx => by cases hx), by simp [Cl.lineF]⟩
  | cons p r =>
    obtain ⟨h1, h2⟩ := lineGo_len b r p []
    exact ⟨fun x hx => by have := h1 x hx; simp only [List.length_cons, List.length_nil] at *; omega, by simp only [Cl.lineF, List.length_cons]; omega⟩
theorem clipL_len (l : List Cl.Pt) (b : Cl.Bx) : (∀ x ∈ clipL l b, x.length ≤ 2 * l.length) ∧ (clipL l b).length ≤ l.length := by
  unfold clipL
  split
  · exact lineF_len l b
  · exact ⟨(fun x hx => by cases hx), by simp⟩
theorem in_near {p : Cl.Pt} {b : Cl.Bx} (hb : Cl.boxB b = true) (h : Cl.inB p b = true) : Cl.nearB p.1 p.2 = true := by
  have h1 := Cl.box_iff.1 hb
  rw [Cl.inB_iff] at h
  rw [Cl.near_iff]; omega
theorem proper_in {x : List Cl.Pt} {b : Cl.Bx} (hb : Cl.boxB b = true) (h : ∀ p ∈ x, Cl.inB p b = true) : Cl.properB x b = true := by
  unfold Cl.properB
  rw [hb, Bool.true_and, List.all_eq_true]
  exact fun p hp => in_near hb (h p hp)
theorem proper_box {l : List Cl.Pt} {b : Cl.Bx} (h : Cl.properB l b = true) : Cl.boxB b = true := by unfold Cl.properB at h; rw [Bool.and_eq_true] at h; exact h.1
theorem clipL_good {l x : List Cl.Pt} {b : Cl.Bx} (h : x ∈ clipL l b) : Cl.Good b x ∧ Cl.properB x b = true := by
  unfold clipL at h
  split at h
  · rename_i hp
    have g := Cl.lineF_good l b x h
    exact ⟨g, proper_in (proper_box hp) g.2.1⟩
  · cases h
theorem clipL_again {l x : List Cl.Pt} {b : Cl.Bx} (h : x ∈ clipL l b) : clipL x b = [x] := by
  have hp := (clipL_good h).2
  unfold clipL
  rw [if_pos hp]
  unfold clipL at h
  split at h
  · exact Cl.lineF_again h
  · cases h
theorem clipR_good (l : List Cl.Pt) (b : Cl.Bx) : clipR l b = [] ∨ (Cl.GoodR b (clipR l b) ∧ Cl.properB (clipR l b) b = true) := by
  unfold clipR
  split
  · rename_i hp
    rcases Cl.ringF_good l b with h | h
    · exact .inl h
    · exact .inr ⟨h, proper_in (proper_box hp) h.2.1⟩
  · exact .inl rfl
theorem clipR_again (l : List Cl.Pt) (b : Cl.Bx) : clipR (clipR l b) b = clipR l b := by
  rcases clipR_good l b with h | ⟨_, h⟩
  · rw [h]; unfold clipR; split
    · rfl
    · rfl
  · have h2 := h
    unfold clipR at h2 ⊢
    split
    · rename_i hp
      rw [if_pos hp] at h2
      rw [if_pos h2]
      exact Cl.ringF_again l b
    · split <;> rfl
theorem wf_in {x : List Cl.Pt} {b : Cl.Bx} (h : Cl.properB x b = true) : Wf x := wf_of (by unfold Cl.properB at h; rw [Bool.and_eq_true, List.all_eq_true] at h; exact h.2)
theorem ringLen (l : List Cl.Pt) (b : Cl.Bx) : (clipR l b).length ≤ 16 * l.length := by
  unfold clipR
  split
  · rw [ringF_steps]
    have h1 := steps_len b l 4
    have h2 : (Cl.aroundF (stepsF b l 4)).length ≤ (stepsF b l 4).length := by
      unfold Cl.aroundF
      simp only
      split
      · simp
      · exact Nat.le_trans (List.IsPrefix.length_le (Cl.strip_pre _ _)) (Cl.cmp_len1 _)
    omega
  · simp
end Go.Proofs.Ytdiknijbjmhacaa
