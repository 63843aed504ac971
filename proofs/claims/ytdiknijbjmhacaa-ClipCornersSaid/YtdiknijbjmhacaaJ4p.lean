/- PLAIN LAWS: moving. -/
import Derived.Test.YtdiknijbjmhacaaJ0
import Derived.Test.YtdiknijbjmhacaaG4
set_option linter.unusedSimpArgs false
set_option linter.unusedVariables false
namespace Go.Proofs.Ytdiknijbjmhacaa
open Go.RowKit

theorem mvOk_of {l : List Cl.Pt} {m : Cl.Pt} (h : mvOk l m = true) : mvL l m = l.map (Cl.mvP m) ∧ allNear l = true ∧ allNear (l.map (Cl.mvP m)) = true ∧ (l.isEmpty = true ∨ Cl.nearB m.1 m.2 = true) := by
  unfold mvOk at h
  rw [Bool.and_eq_true] at h
  obtain ⟨h1, h2⟩ := h
  refine ⟨by unfold mvL; rw [if_pos h1], ?_, h2, ?_⟩
  · unfold mvPre at h1; rw [Bool.and_eq_true] at h1; exact h1.1
  · unfold mvPre at h1; rw [Bool.and_eq_true, Bool.or_eq_true] at h1; exact h1.2
theorem box_mv {x0 y0 x1 y1 mx my : Int} (h : mvOk [(x0, y0), (x1, y1)] (mx, my) = true) :
    mvL [(x0, y0), (x1, y1)] (mx, my) = [(x0 + mx, y0 + my), (x1 + mx, y1 + my)] ∧ Cl.nearB mx my = true ∧ Cl.boxB (Cl.mvB (mx, my) ⟨x0, y0, x1, y1⟩) = Cl.boxB ⟨x0, y0, x1, y1⟩ ∧ Wf [(x0 + mx, y0 + my), (x1 + mx, y1 + my)] ∧ (Cl.nearB x0 y0 = true ∧ Cl.nearB x1 y1 = true ∧ Cl.nearB (x0 + mx) (y0 + my) = true ∧ Cl.nearB (x1 + mx) (y1 + my) = true) := by
  obtain ⟨h1, h2, h3, h4⟩ := mvOk_of h
  simp [allNear, Cl.mvP] at h2 h3 h4
  refine ⟨by rw [h1]; rfl, h4, ?_, wf_of (by simp [h3]), h2.1, h2.2, h3.1, h3.2⟩
  simp only [Cl.boxB, Cl.mvB, h2.1, h2.2, h3.1, h3.2, Bool.true_and]
  rw [Bool.eq_iff_iff]; simp
theorem proper_mv {l : List Cl.Pt} {m : Cl.Pt} {b : Cl.Bx} (h : mvOk l m = true) (hb : Cl.boxB (Cl.mvB m b) = Cl.boxB b) : Cl.properB (l.map (Cl.mvP m)) (Cl.mvB m b) = Cl.properB l b := by
  obtain ⟨_, h2, h3, _⟩ := mvOk_of h
  unfold allNear at h2 h3
  unfold Cl.properB
  rw [hb, h2, h3]
theorem clipL_mv {l : List Cl.Pt} {m : Cl.Pt} {b : Cl.Bx} (h : mvOk l m = true) (hb : Cl.boxB (Cl.mvB m b) = Cl.boxB b) : clipL (l.map (Cl.mvP m)) (Cl.mvB m b) = (clipL l b).map (List.map (Cl.mvP m)) := by
  unfold clipL
  rw [proper_mv h hb]
  split
  · exact Cl.lineF_mv m l b
  · rfl
theorem clipR_mv {l : List Cl.Pt} {m : Cl.Pt} {b : Cl.Bx} (h : mvOk l m = true) (hb : Cl.boxB (Cl.mvB m b) = Cl.boxB b) : clipR (l.map (Cl.mvP m)) (Cl.mvB m b) = (clipR l b).map (Cl.mvP m) := by
  unfold clipR
  rw [proper_mv h hb]
  split
  · exact Cl.ringF_mv m l b
  · rfl
theorem part_mv {x : List Cl.Pt} {m : Cl.Pt} {b : Cl.Bx} (hm : Cl.nearB m.1 m.2 = true) (h1 : Cl.boxB b = true) (h2 : Cl.boxB (Cl.mvB m b) = Cl.boxB b) (h : ∀ p ∈ x, Cl.inB p b = true) : mvOk x m = true ∧ mvL x m = x.map (Cl.mvP m) := by
  have a1 : allNear x = true := by unfold allNear; rw [List.all_eq_true]; exact fun p hp => in_near h1 (h p hp)
  have a2 : allNear (x.map (Cl.mvP m)) = true := by
    unfold allNear; rw [List.all_eq_true]
    intro p hp
    obtain ⟨q, hq, rfl⟩ := List.mem_map.1 hp
    exact in_near (by rw [h2]; exact h1) (by rw [Cl.inB_mv]; exact h q hq)
  have hp : mvPre x m = true := by unfold mvPre; rw [a1, hm]; simp
  refine ⟨by unfold mvOk; rw [hp, a2]; rfl, by unfold mvL; rw [if_pos hp]⟩
theorem part_mv_nil {m : Cl.Pt} : mvOk [] m = true ∧ mvL [] m = [] := ⟨rfl, rfl⟩
end Go.Proofs.Ytdiknijbjmhacaa
