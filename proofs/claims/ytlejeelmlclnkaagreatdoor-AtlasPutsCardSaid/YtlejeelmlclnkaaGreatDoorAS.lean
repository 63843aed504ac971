/- PLAIN LAWS OF THE STATEMENTS ABOUT MAPS: putting, finding. -/
import Derived.Test.YtlejeelmlclnkaaGreatDoorAR
import Derived.Test.YtlejeelmlclnkaaGreatDoorBR
set_option linter.unusedSimpArgs false
set_option linter.unusedVariables false
namespace Go.Proofs.YtlejeelmlclnkaaGreatDoor
open At

theorem putF_length (X : List Ob) (hs : Srt X) (o : Ob) : (putF X o).length ≤ X.length + 1 := by
  have h := congrArg List.length (parts hs o.id)
  simp only [List.length_append] at h
  unfold putF
  simp only [List.length_append, List.length_cons]
  omega
theorem put_valid {X : List Ob} {o : Ob} (h : validM X = true) (ho : validO o = true) (hl : X.length ≤ 999999) : validM (putF X o) = true := by
  obtain ⟨h1, h2, h3⟩ := validM_iff.1 h
  refine validM_iff.2 ⟨srt_put h1 o, fun x hx => ?_, by have := putF_length X h1 o; omega⟩
  rcases mem_put.1 hx with rfl | ⟨hx, -⟩
  · exact ho
  · exact h2 x hx
theorem putM_ok {X : List Ob} {o : Ob} (h : validM X = true) (ho : validO o = true) : putM X o = (putF X o, 0) := by
  unfold putM; rw [h, ho]; rfl
/-- objects of L, put one after the other -/
structure OrdP (L X : List Ob) : Prop where
  v : validM X = true
  sub : ∀ o ∈ X, o ∈ L
theorem ordP_nil (L : List Ob) : OrdP L [] := ⟨by decide, fun o h => by cases h⟩
theorem OrdP.put {L X : List Ob} (h : OrdP L X) (hL : validM L = true) {o : Ob} (ho : o ∈ L) (hl : X.length ≤ 999999) : putM X o = (putF X o, 0) ∧ OrdP L (putF X o) ∧ (putF X o).length ≤ X.length + 1 ∧ (∀ p, p ∈ X ∨ p = o → p ∈ putF X o) := by
  obtain ⟨l1, l2, l3⟩ := validM_iff.1 hL
  have x1 := (validM_iff.1 h.v).1
  refine ⟨putM_ok h.v (l2 o ho), ⟨put_valid h.v (l2 o ho) hl, fun p hp => ?_⟩, putF_length X x1 o, ?_⟩
  · rcases mem_put.1 hp with rfl | ⟨hp, -⟩
    · exact ho
    · exact h.sub p hp
  · rintro p (hp | rfl)
    · rcases Classical.em (p.id = o.id) with e | e
      · rw [srt_unique l1 (h.sub p hp) ho e]; exact mem_put.2 (.inl rfl)
      · exact mem_put.2 (.inr ⟨hp, e⟩)
    · exact mem_put.2 (.inl rfl)
theorem OrdP.all {L X : List Ob} (h : OrdP L X) (hL : validM L = true) (ha : ∀ o ∈ L, o ∈ X) : X = L :=
  srt_ext (validM_iff.1 h.v).1 (validM_iff.1 hL).1 fun o => ⟨h.sub o, ha o⟩
/-! ### finding -/
theorem find_some {L : List Ob} (hs : Srt L) {id : Tx} {o : Ob} (h : At.look L id = some o) : ∃ hp : pos L id < L.length, L[pos L id] = o ∧ findR L id = (pos L id : Int) := by
  obtain ⟨hp, e⟩ := get_pos hs h
  refine ⟨hp, e, findR_at hp (by rw [e]; exact look_id h) fun i hi hlt => ?_⟩
  have := (pos_split hs (id := id) hi).2 hlt
  exact lt_ne this
theorem find_none {L : List Ob} {id : Tx} (h : At.look L id = none) : findR L id = -1 := findR_none fun i hi => look_none.1 h _ (List.getElem_mem hi)
end Go.Proofs.YtlejeelmlclnkaaGreatDoor
