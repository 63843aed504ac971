/- TACTICS: a region that draws its order, by hand: m_start S, proof · m_take i · m_skip i (its guard is false) · m_ready i (tac; m_next S') · m_done. -/
import Derived.Deep.RegionHeld3
import Derived.Deep.DrawnRows
import Derived.ProofKit
set_option linter.unusedSimpArgs false
set_option linter.unusedVariables false
namespace Go
set_option hygiene false
macro "m_simp" : tactic => `(tactic| try simp only [Act.put, List.getElem_toArray, List.getElem_cons_zero, List.getElem_cons_succ, List.setIfInBounds_toArray, List.set_cons_zero, List.set_cons_succ])
macro "m_start " S:term ", " p:term : tactic => `(tactic| (refine wp_region_noPanic ?_; refine wp_region_held_drew (S := $S) (by kernel_rfl) ?_ (fun hHeld => ?_); exact $p))
macro "m_take " i:num : tactic => `(tactic| (refine wpAnyH_take (i := $i) (oi := _) (v := ?_) rfl (by kernel_rfl) (by kernel_rfl) (by kernel_rfl) (fun _ _ _ h => h) (Or.inl ⟨?_, ?_⟩) (by assumption) ?_; rotate_left; (focus (first | rfl | (simp [Region.wanted, yielded]; done))); (focus (intro w hSw; (try dsimp only at hSw); go_simp; all_goals (with_reducible rfl))); m_simp))
macro "m_takev " i:num ", " v:term : tactic => `(tactic| (refine wpAnyH_take (i := $i) (oi := _) (v := $v) rfl (by kernel_rfl) (by kernel_rfl) (by kernel_rfl) (fun _ _ _ h => h) (Or.inl ⟨?_, ?_⟩) (by assumption) ?_; (focus (simp [Region.wanted, yielded]; done)); (focus (intro w hSw; (try dsimp only at hSw); go_simp; all_goals (with_reducible rfl))); m_simp))
macro "m_skip " i:num : tactic => `(tactic| (refine wpAnyH_take (i := $i) (oi := _) (v := undef) rfl (by kernel_rfl) (by kernel_rfl) (by kernel_rfl) (fun _ _ _ h => h) (Or.inr ⟨?_, rfl⟩) (by assumption) ?_; (focus (simp [Region.wanted, yielded]; done)); m_simp))
macro "m_ready " i:num : tactic => `(tactic| (refine wpAnyH_ready (rs := [$i]) (by kernel_rfl) (by simp) ?_; refine AllReadyH.cons (o := _) rfl (fun K hK => ?_) AllReadyH.nil; go_simp))
macro "m_next " s:term : tactic => `(tactic| (refine hK.out _ _ $s (fun hHeld2 => ?_); clear hK K hHeld; have hHeld := hHeld2; clear hHeld2; m_simp))
macro "m_done" : tactic => `(tactic| (refine wpAnyH_done (by kernel_rfl) ?_ _; refine NoPanic.normal ?_))
end Go
