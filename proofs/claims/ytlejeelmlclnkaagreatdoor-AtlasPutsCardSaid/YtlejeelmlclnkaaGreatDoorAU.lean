/- PLAIN LAWS OF THE STATEMENT AtlasPuts. -/
import Derived.Test.YtlejeelmlclnkaaGreatDoorAS
set_option linter.unusedSimpArgs false
set_option linter.unusedVariables false
namespace Go.Proofs.YtlejeelmlclnkaaGreatDoor
open At

theorem look_putF {L : List Ob} (hs : Srt L) (o : Ob) : At.look (putF L o) o.id = some o := by rw [look_put hs, if_pos rfl]
theorem look_putF_ne {L : List Ob} (hs : Srt L) (o : Ob) {id : Tx} (h : id ≠ o.id) : At.look (putF L o) id = At.look L id := by rw [look_put hs, if_neg h]
theorem put_back {L : List Ob} {o z : Ob} (h : validM L = true) (ho : validO o = true) (hl : L.length ≤ 999999) (hz : At.look L o.id = some z) : putM (putF L o) z = (L, 0) := by
  obtain ⟨h1, h2, h3⟩ := validM_iff.1 h
  have hzi : z.id = o.id := look_id hz
  rw [putM_ok (put_valid h ho hl) (h2 z (look_mem hz))]
  refine congrArg (·, 0) (look_ext (srt_put (srt_put h1 o) z) h1 fun id => ?_)
  rw [look_put (srt_put h1 o), look_put h1, hzi]
  split
  · rename_i e; rw [e, hz]
  · rfl
theorem drop_back {L : List Ob} {o : Ob} (h : validM L = true) (ho : validO o = true) (hl : L.length ≤ 999999) (hz : At.look L o.id = none) : dropM (putF L o) o.id = (L, 0) := by
  obtain ⟨h1, h2, h3⟩ := validM_iff.1 h
  have hh : At.has (putF L o) o.id = true := by unfold At.has; rw [look_putF h1]; rfl
  unfold dropM
  rw [put_valid h ho hl, hh]
  refine congrArg (·, 0) (look_ext (srt_dropF (srt_put h1 o) o.id) h1 fun id => ?_)
  rw [look_dropF (srt_put h1 o), look_put h1]
  split
  · rename_i e; rw [e, hz]
  · rfl
theorem put_len_new {L : List Ob} {o : Ob} (hs : Srt L) (hz : At.look L o.id = none) : (putF L o).length = L.length + 1 := by
  have h := congrArg List.length (parts hs o.id)
  rw [hz] at h
  unfold putF
  simp only [List.length_append, List.length_cons, Option.toList_none, List.length_nil] at h ⊢
  omega
end Go.Proofs.YtlejeelmlclnkaaGreatDoor
