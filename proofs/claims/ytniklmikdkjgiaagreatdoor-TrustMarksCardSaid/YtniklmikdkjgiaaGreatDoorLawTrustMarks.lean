/- THE STATEMENT TrustMarks: for every input the law returns true and leaves its arguments as they were. Conditions: none. -/
import Derived.Test.YtniklmikdkjgiaaGreatDoorcS3
import Derived.Test.YtniklmikdkjgiaaGreatDoorcS8
import Derived.Test.YtniklmikdkjgiaaGreatDoorcTO
import Derived.Test.YtniklmikdkjgiaaGreatDoorcTP
import Derived.Test.YtniklmikdkjgiaaGreatDoorcXA
import Derived.Test.YtniklmikdkjgiaaGreatDoorcXB
import Derived.Test.YtniklmikdkjgiaaGreatDoorcXC
import Derived.Test.YtniklmikdkjgiaaGreatDoorcXF
import Derived.Test.YtniklmikdkjgiaaGreatDoorcXG
import Derived.Test.YtniklmikdkjgiaaGreatDoorcXH
import Derived.Test.YtniklmikdkjgiaaGreatDoorcXJ
import Derived.Test.YtniklmikdkjgiaaGreatDoorcXP
import Derived.Test.YtniklmikdkjgiaaGreatDoorcXQ
import Derived.Test.YtniklmikdkjgiaaGreatDoorRows
import Derived.WalkKit
import Derived.ProofKit
import Derived.OpenShut
import Derived.ShutString
import Derived.ChangeOld
import Derived.Below
import Derived.SizedLaws
import Derived.SliceStrings
import Derived.Lay
import Derived.Lib.LaidTab
import Derived.Lib.LaidU8
import Derived.SevenTiedAt
import Derived.Stop.Joined
import Derived.Test.YtniklmikdkjgiaaGreatDoorCards
import Derived.Test.YtniklmikdkjgiaaGreatDoorTie
set_option linter.unusedSimpArgs false
set_option linter.unusedVariables false
namespace Go.Proofs.YtniklmikdkjgiaaGreatDoor.lawTrustMarks
open Go.Proofs.YtniklmikdkjgiaaGreatDoor Go.ChangeShapes Go.WideShapes Go.ChangeAt Go.RowKit
open Go.ChangeMaps (open_string shut_string)

theorem own : ownKnob Tryz.prog.godebug = none := by kernel_rfl
theorem laidOut : laidOutB Tryz.prog = true := by kernel_rfl

theorem bytesStr : Tryz.prog.bytesOf 9 = 16 := by kernel_rfl

set_option maxHeartbeats 1000000 in
set_option maxRecDepth 100000 in
theorem lifted (os : Os) (started : os.Started) (H : Type) (enc : TypeId × Value → H) :
    ReturnsInHanded {} Tryz.checked os 14 .any (fun w args => (Rows.trustMarksSpec.pre enc Tryz.prog Tryz.f14 Rows.trustMarksRow.domain false w args ∧ laidMetH Tryz.prog Rows.trustMarksRow.laid w) ∧ sizedMet enc Tryz.prog Tryz.f14 (OpenSpec.ofChange Rows.trustMarksSpec) false w args) (Rows.trustMarksSpec.post enc Tryz.prog Tryz.f14 false true false false) := by
  refine returnsInHanded_of_change_and (C := Tryz.checked) (X := fun w _ => laidMetH Tryz.prog Rows.trustMarksRow.laid w) (fun _ _ _ hh h => h.of_heap hh) own started (by kernel_rfl) Tryz.func14
    (ChangeSpec.witness_shaped (enc := enc) (C := Tryz.checked) (os := os) (X := fun w _ => laidMetH Tryz.prog Rows.trustMarksRow.laid w) false (World.laidAll Tryz.prog os Rows.trustMarksRow.laid) #[.slice none 0 0, .agg #[.slice none 0 0, .slice none 0 0, .slice none 0 0, .int .i64 0, .slice none 0 0, .slice none 0 0]] 8 (World.laidAll_os _ _ _)
      (World.shaped_of_ZipB (by kernel_rfl) (by kernel_rfl)) (by kernel_rfl) (by kernel_rfl) (by kernel_rfl)
      (by rw [MakeChecks.laidMetH_plain _ _ _ (by kernel_rfl)]; exact laidMet_laidAll _ (by kernel_rfl) (by kernel_rfl))) ?_
  intro W base args ds gs before hval0 hW _ hsz0 hL _
  have hval : ∀ (j : Nat) t v, Tryz.f14.params[j]? = some t → args[j]? = some v → Value.okWide Tryz.prog W .any base t v := hval0
  have hsz : (DataW.weightsEach Tryz.prog (Tryz.f14.params.toList ++ Rows.trustMarksSpec.plain.varTypes Tryz.prog) (ds ++ gs)).all (· ≤ reachBytes) = true := hsz0
  clear hsz0
  have hW' := hW
  obtain ⟨p, q, hA0, hV, rfl, hfz, hnd⟩ := hW
  have hA : DataW.TrodAll enc Tryz.prog W 0 (fun _ => true) true Tryz.f14.params.toList args.toList ds p := hA0
  rw [Tryz.params14] at hA hval hsz
  obtain ⟨v0, vs0, d0, ds0, p0, q0, hargs, rfl, rfl, h0, r0⟩ := trodAll_cons hA
  obtain ⟨v1, vs1, d1, ds1, p1, q1, rfl, rfl, rfl, h1, r1⟩ := trodAll_cons r0
  obtain ⟨rfl, rfl, rfl⟩ := trodAll_nil r1
  obtain rfl : args = #[v0, v1] := by cases args; simp_all
  obtain ⟨rfl, rfl⟩ := trodVars_none hV
  have k0 := h0
  have lt0 : ∀ x ∈ p0, x.block < W.heap.size := by obtain ⟨m, hm⟩ := k0; exact DataW.trod_lt m _ _ _ hm
  obtain ⟨a0, n0, e0, rfl⟩ := okWide_slice Tryz.underlying22 (hval 0 22 v0 rfl rfl)
  obtain ⟨A0, c0, l0, g0, u0, uu0, x0⟩ : ∃ (A : Option Addr) (c : Nat) (l : List RV), Value.slice a0 n0 e0 = .slice A l.length c ∧ l.length ≤ c ∧ c ≤ 9223372036854775807 ∧ Rw W A l := by
    obtain ⟨fuel, hf⟩ := h0
    exact recs_open hf (wt_arg hsz (j := 0) (t := 22) (d := d0) rfl rfl)
  injection g0 with q10 q20 q30
  subst q10 q20 q30
  have k1 := h1
  have lt1 : ∀ x ∈ p1, x.block < W.heap.size := by obtain ⟨m, hm⟩ := k1; exact DataW.trod_lt m _ _ _ hm
  obtain ⟨o1, rfl, x1⟩ := world_open (hval 1 38 v1 rfl rfl) h1 (wt_arg hsz (j := 1) (t := 38) (d := d1) rfl rfl)
  rw [MakeChecks.laidMetH_plain _ _ _ (by kernel_rfl)] at hL
  have hT : Tab W := tab_of hL
  clear hA0 hval0
  refine (walk_TrustMarks _ _ l0 o1 W x0 x1 hT).mono fun e W' ⟨he, bel⟩ => ?_
  subst he
  exact ⟨_, rfl, _, _, _, [], _, [], hW', trodAll_mk1 (shut_bool Tryz.underlying4 _), (trodAll_cons_mk (Below.trod laidOut (by kernel_rfl) (of_decide_eq_true (by kernel_rfl)) k0 bel lt0) (trodAll_cons_mk (Below.trod laidOut (by kernel_rfl) (of_decide_eq_true (by kernel_rfl)) k1 bel lt1) trodAll_mk0)), rfl, bel.frame _, fun h => by cases h⟩

theorem f2 : mapsRowed Tryz.prog = true := by kernel_rfl
theorem f24 : Tryz.prog.stopsHeard = true := by kernel_rfl
theorem f25 : Tryz.prog.mayEnter = true := by kernel_rfl
theorem f9 : (Rows.trustMarksRow.inPlace == Tryz.prog.inPlace 14) = true := by kernel_rfl
theorem f10 : (Rows.trustMarksRow.unfollowed == Tryz.prog.unfollowed 14) = true := by kernel_rfl
theorem f11 : (Rows.trustMarksRow.recurses == Tryz.prog.recurses 14) = true := by kernel_rfl
theorem f12 : (Rows.trustMarksRow.named == Tryz.prog.varsNamed 14) = true := by kernel_rfl
theorem f16 : (Rows.trustMarksRow.loops == (Tryz.f14.params.toList ++ Rows.trustMarksSpec.plain.varTypes Tryz.prog).any (Tryz.prog.loopsFrom ·)) = true := by kernel_rfl
theorem f26 : (Rows.trustMarksRow.lifted == Tryz.prog.liftsFinal) = true := by kernel_rfl
theorem f27 : (Tryz.prog.make == some Rows.trustMarksRow.make) = true := by kernel_rfl
theorem closed : joinedFacts Tryz.prog 14 Tryz.f14 Rows.trustMarksSpec Rows.trustMarksRow = true := by
  unfold joinedFacts
  rw [laidOut, f2, f9, f10, f11, f12, f16, f24, f25, f26, f27]
  kernel_rfl
theorem g1 : Rows.trustMarksRow.wfByText (OpenSpec.ofChange Rows.trustMarksSpec) = true := by kernel_rfl
theorem g2 : Tryz.prog.mainIs = some (true, "e9b95bf607bfcd4528a56b9f5111ec734dd3cd10391ae553815f0691ff1f9a07".toList) := by kernel_rfl
theorem g3 : Tryz.prog.funcNamed "planisphere/planispherelaw30.TrustMarks" = some 14 := by kernel_rfl
theorem g4 : true = Tryz.prog.looks [] := by kernel_rfl
theorem g5 : false = Rows.trustMarksRow.goesBy Tryz.prog := by kernel_rfl
theorem g6 : ([22, 38].all fun u => !Tryz.prog.wantsStandIn u) = true := by kernel_rfl
theorem g7 : Tryz.f14.isWrapper Tryz.prog Rows.trustMarksRow.wrapper Rows.trustMarksRow.mainSum := by unfold Func.isWrapper; first | (rw [if_pos (by decide +kernel)]; kernel_rfl) | (rw [if_neg (by decide +kernel)]; exact ⟨rfl, rfl⟩)
theorem over : Rows.TrustMarksSaid :=
  OpenClaim.holds_of_wide 14 Tryz.f14 rfl rfl rfl rfl rfl rfl rfl ⟨rfl, rfl, rfl, rfl, rfl⟩ rfl rfl rfl rfl rfl g3 Tryz.func14 closed
    (of_decide_eq_true (by kernel_rfl)) g7
    (fun os started H enc _ => lifted os started H enc)
theorem proved : Rows.TrustMarksCardSaid :=
  Claim7.holds_tied_plain_at .later [] [.data, .data, .data, .data, .pinned] true (true, "e9b95bf607bfcd4528a56b9f5111ec734dd3cd10391ae553815f0691ff1f9a07") true over (fun _ h => by cases h) g1 (fun _ h => by cases h) trustMarks_row_tie rfl ⟨rfl, rfl⟩ g2 rfl
    (fun f fn hf hfn => by
      obtain rfl : f = 14 := Option.some.inj (g3.symm.trans hf) |>.symm
      obtain rfl : fn = Tryz.f14 := (Option.some.inj (Tryz.func14.symm.trans hfn)).symm
      exact ⟨g4, fun j t ht => by
        rw [Tryz.params14] at ht
        have hm : t ∈ [22, 38] := by simpa using Array.mem_of_getElem? ht
        exact (show Tryz.prog.wantsStandIn t = false by simpa using List.all_eq_true.1 g6 t hm)⟩)
    g5
end Go.Proofs.YtniklmikdkjgiaaGreatDoor.lawTrustMarks
