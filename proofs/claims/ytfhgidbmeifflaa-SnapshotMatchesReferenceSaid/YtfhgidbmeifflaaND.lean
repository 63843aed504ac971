/- WALKS: New of shelves; Held. -/
import Derived.Test.YtfhgidbmeifflaaNC
set_option linter.unusedSimpArgs false
set_option linter.unusedVariables false
namespace Go.Proofs.Ytfhgidbmeifflaa
open Go.RowKit Go.Maps Go.ChangeMaps Go.MapKept Go.WideShapes Go.WideMaps

/-- a new shelf -/
def NewPost (w : World) (e : Ending) (w' : World) : Prop :=
  ∃ (p : Nat) (F : Nat → Prop), e = .returned (.pointer (some ⟨p, 0, none⟩)) ∧ ShAt w' p F newS ∧ (∀ g, F g → w.heap.size ≤ g) ∧ Below w.heap.size w w'
theorem newS_inv : ShInv newS where
  ord := fun _ => trivial
  upto := by intro t v hv; simp [newS] at hv
  rdc := by intro i c h; simp [newS] at h
  ver := Nat.zero_le _
  clk := Nat.zero_le _
  opn := Nat.zero_le _
  lim := Nat.zero_le _
theorem rdM_none : rdM (fun _ => none) = fun _ => none := by
  funext kl
  unfold rdM
  cases kl with
  | int k x => cases k <;> simp
  | _ => rfl
theorem keyM_none : keyM (fun _ => none) = fun _ => none := by
  funext kl
  unfold keyM
  cases kl <;> rfl
theorem new_any (w : World) : Calls Try.prog 11 #[] w (NewPost w) := by
  have h1 : ∀ u : World, (Instr.makeMap 50 none).run Try.prog u = .ok (.map (some u.heap.size)) (u.alloc (.map #[] 0)) := fun u => run_makeMap _ _
  have h2 : ∀ u : World, (Instr.makeMap 51 none).run Try.prog u = .ok (.map (some u.heap.size)) (u.alloc (.map #[] 0)) := fun u => run_makeMap _ _
  go_enter Try.func11, Try.ntmps11
  go_wp2_with fail
  go_ret
  clear h1 h2
  have b1 : Below w.heap.size w (w.alloc (.map #[] 0)) := (Below.refl _ _).alloc (Nat.le_refl _) _
  have b2 : Below w.heap.size w ((w.alloc (.map #[] 0)).alloc (.map #[] 0)) := b1.alloc (by simp) _
  have b3 : Below w.heap.size w (((w.alloc (.map #[] 0)).alloc (.map #[] 0)).alloc (.cells #[.int .i64 0, .int .i64 0, .map (some w.heap.size), .map (some (w.heap.size + 1)), .int .i64 0] 53)) := b2.alloc (by simp; omega) _
  have m1 := MapAt.made w Try.prog 9
  have m2 := MapAt.made (w.alloc (.map #[] 0)) Try.prog 3
  refine ⟨w.heap.size + 1 + 1, fun g => w.heap.size ≤ g ∧ g < w.heap.size + 3, by simp, ⟨w.heap.size, w.heap.size + 1, 0, fun _ => none, ?_⟩, fun g h => h.1, b3⟩
  refine ⟨alloc_new' _ _ _ (by simp), ?_, ?_, fun t _ => rfl, fun t v h => (by cases h), fun t t' v v' _ h => (by cases h), ?_, ?_, ?_, fun t v g h => (by cases h), ?_, Nat.le_refl _, ?_⟩
  · rw [keyM_none]
    exact m1.same (((alloc_old _ _ (by simp; omega)).trans (alloc_old _ _ (by simp))))
  · show MapAt _ _ _ _ (rdM (fun _ => none)) 0
    rw [rdM_none]
    have := m2.same (w' := ((w.alloc (.map #[] 0)).alloc (.map #[] 0)).alloc (.cells #[.int .i64 0, .int .i64 0, .map (some w.heap.size), .map (some (w.heap.size + 1)), .int .i64 0] 53)) (alloc_old _ _ (by simp))
    simpa using this
  all_goals first | omega | (simp; done) | (simp; omega) | skip

end Go.Proofs.Ytfhgidbmeifflaa
