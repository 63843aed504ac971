/- THE STATEMENT ClipMatchesReference: for every input the law returns true and leaves its arguments as they were. Conditions: none. -/
import Derived.Test.YtdiknijbjmhacaaRows
import Derived.Test.YtdiknijbjmhacaaOp41
import Derived.Test.YtdiknijbjmhacaaM5
import Derived.WalkKit
import Derived.ProofKit
import Derived.OpenShut
import Derived.ChangeOld
import Derived.Below
import Derived.SizedLaws
import Derived.Carry
set_option linter.unusedSimpArgs false
set_option linter.unusedVariables false
namespace Go.Proofs.Ytdiknijbjmhacaa.lawClipMatchesReference
open Go.Proofs.Ytdiknijbjmhacaa Go.ChangeShapes Go.WideShapes Go.ChangeAt Go.RowKit

theorem own : ownKnob Try.prog.godebug = none := by kernel_rfl
theorem laidOut : laidOutB Try.prog = true := by kernel_rfl
theorem bytesPt : Try.prog.bytesOf 24 = 16 := by kernel_rfl

set_option maxRecDepth 100000 in
theorem lifted (os : Os) (started : os.Started) (H : Type) (enc : TypeId × Value → H) :
    ReturnsInHanded {} Try.checked os 3 .any (Rows.clipMatchesReferenceSpec.pre6 enc Try.prog Try.f3 Rows.clipMatchesReferenceRow.domain false) (Rows.clipMatchesReferenceSpec.post enc Try.prog Try.f3 false true false false) := by
  refine returnsInHanded_of_change_sized (C := Try.checked) own started (by kernel_rfl) Try.func3
    (ChangeSpec.witness6 (enc := enc) (C := Try.checked) false ⟨#[], #[.slice none 0 0, .agg #[.int .i64 0, .int .i64 0, .int .i64 0, .int .i64 0]], []⟩ 8 (by kernel_rfl) (by kernel_rfl) (by kernel_rfl) (by kernel_rfl)) ?_
  intro W base args ds gs before hval0 hW _ hsz0 _
  have hval : ∀ (j : Nat) t v, Try.f3.params[j]? = some t → args[j]? = some v → Value.okWide Try.prog W .any base t v := hval0
  have hsz : (DataW.weightsEach Try.prog (Try.f3.params.toList ++ Rows.clipMatchesReferenceSpec.plain.varTypes Try.prog) (ds ++ gs)).all (· ≤ reachBytes) = true := hsz0
  clear hsz0
  have hW' := hW
  obtain ⟨p, q, hA0, hV, rfl, hfz, hnd⟩ := hW
  have hA : DataW.TrodAll enc Try.prog W 0 (fun _ => true) true Try.f3.params.toList args.toList ds p := hA0
  rw [Try.params3] at hA hval hsz
  obtain ⟨v0, vs0, d0, ds0, p0, q0, hargs, rfl, rfl, h0, r0⟩ := trodAll_cons hA
  obtain ⟨v1, vs1, d1, ds1, p1, q1, rfl, rfl, rfl, h1, r1⟩ := trodAll_cons r0
  obtain ⟨rfl, rfl, rfl⟩ := trodAll_nil r1
  obtain rfl : args = #[v0, v1] := by cases args; simp_all
  obtain ⟨rfl, rfl⟩ := trodVars_none hV
  have k0 := h0
  have lt0 : ∀ x ∈ p0, x.block < W.heap.size := by obtain ⟨m, hm⟩ := k0; exact DataW.trod_lt m _ _ _ hm
  obtain ⟨a0, n0, c0, rfl⟩ := okWide_slice Try.underlying22 (hval 0 22 v0 rfl rfl)
  obtain ⟨l0, hn0, hnc0, hc0, rp0, wf0⟩ : ∃ l, n0 = l.length ∧ n0 ≤ c0 ∧ c0 ≤ 8796093022208 ∧ Rp W a0 l ∧ Wf l := by
    obtain ⟨fuel, hf⟩ := h0
    obtain ⟨A, n, c, l, e, e1, e2, e3, e4, e5, e6⟩ := pts_open hf
    cases e
    refine ⟨l, e1, e2, ?_, e4, e5⟩
    rcases e6 with ⟨_, e6⟩ | ⟨els, rest, e6, e7⟩
    · omega
    · have hs := sized_slice hsz (j := 0) (t := 22) (e := 24) rfl (by rw [← e6]; rfl) Try.underlying22
      rw [bytesPt, e7] at hs
      simp only [reachBytes] at hs
      omega
  have k1 := h1
  have lt1 : ∀ x ∈ p1, x.block < W.heap.size := by obtain ⟨m, hm⟩ := k1; exact DataW.trod_lt m _ _ _ hm
  obtain ⟨cs1, rfl, hcs1⟩ := okWide_struct Try.underlying26 (hval 1 26 v1 rfl rfl)
  obtain ⟨x1, y1, z1, u1, rfl, wb1⟩ : ∃ x0 y0 x1 y1 : Int, cs1 = #[.int .i64 x0, .int .i64 y0, .int .i64 x1, .int .i64 y1] ∧ Wf [(x0, y0), (x1, y1)] := by
    obtain ⟨fuel, hf⟩ := h1
    obtain ⟨x0, y0, x1, y1, e, hw⟩ := box_open hf
    exact ⟨x0, y0, x1, y1, by simpa [Value.cells] using congrArg List.toArray e, hw⟩
  clear hA0 hval0
  refine (walk_ClipMatchesReference a0 n0 c0 l0 x1 y1 z1 u1 W hn0 hnc0 hc0 rp0 wf0 wb1).mono fun e W' ⟨he, bel⟩ => ?_
  subst he
  exact ⟨_, rfl, _, _, _, [], _, [], hW', trodAll_mk1 (shut_bool Try.underlying4 _), (trodAll_cons_mk (Below.trod laidOut (by kernel_rfl) (of_decide_eq_true (by kernel_rfl)) k0 bel lt0) (trodAll_cons_mk (Below.trod laidOut (by kernel_rfl) (of_decide_eq_true (by kernel_rfl)) k1 bel lt1) trodAll_mk0)), rfl, bel.frame _, fun h => by cases h⟩

theorem over : Rows.clipMatchesReferenceRow.holds Try.pinned (OpenSpec.ofChange Rows.clipMatchesReferenceSpec) :=
  OpenClaim.holds_of_wide 3 Try.f3 rfl rfl rfl rfl rfl rfl rfl ⟨rfl, rfl, rfl, rfl, rfl⟩ rfl rfl rfl rfl rfl (by kernel_rfl) Try.func3 (by kernel_rfl)
    (of_decide_eq_true (by kernel_rfl)) (by unfold Func.isWrapper; first | (rw [if_pos (by decide +kernel)]; kernel_rfl) | (rw [if_neg (by decide +kernel)]; exact ⟨rfl, rfl⟩))
    (fun os started H enc _ => lifted os started H enc)

theorem proved : Rows.ClipMatchesReferenceSaid := over
end Go.Proofs.Ytdiknijbjmhacaa.lawClipMatchesReference
