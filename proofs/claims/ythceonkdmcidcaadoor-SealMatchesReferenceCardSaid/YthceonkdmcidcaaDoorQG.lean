/- WALKS: the reference's Sum. -/
import Derived.Test.YthceonkdmcidcaaDoorQE
set_option linter.unusedSimpArgs false
set_option linter.unusedVariables false
namespace Go.Proofs.YthceonkdmcidcaaDoor
open Go.RowKit

theorem mulw (c x : Nat) : IntKind.u64.wrap ((x : Int) * (c : Int)) = ((Dg.mulM c x : Nat) : Int) := by
  rw [IntKind.wrap_u64]; unfold Dg.mulM Dg.M; rw [← Int.natCast_mul]; omega
theorem rmix_any (x : Nat) (w : World) : Calls Tryd.prog 51 #[.int .u64 (x : Int)] w fun e w' => e = .returned (.int .u64 ((Dg.mix x : Nat) : Int)) ∧ w = w' := by
  have e1 := xsh32 (Dg.mulM Dg.C1 x) (Dg.mulM_lt _ _)
  have e2 := xsh29 (Dg.mulM Dg.C2 (Dg.xsh 32 (Dg.mulM Dg.C1 x))) (Dg.mulM_lt _ _)
  have EM : Hid (Dg.mix x = Dg.xsh 29 (Dg.mulM Dg.C2 (Dg.xsh 32 (Dg.mulM Dg.C1 x)))) := Lib.hid rfl
  have m1 : IntKind.u64.wrap ((x : Int) * 2862933555777941757) = ((Dg.mulM Dg.C1 x : Nat) : Int) := mulw Dg.C1 x
  have m2 : IntKind.u64.wrap (((Dg.xsh 32 (Dg.mulM Dg.C1 x) : Nat) : Int) * 3935559000370003845) = ((Dg.mulM Dg.C2 (Dg.xsh 32 (Dg.mulM Dg.C1 x)) : Nat) : Int) := mulw Dg.C2 _
  generalize Dg.mulM Dg.C2 (Dg.xsh 32 (Dg.mulM Dg.C1 x)) = q2 at *
  generalize Dg.mulM Dg.C1 x = q1 at *
  generalize Dg.xsh 32 q1 = q3 at *
  generalize Dg.xsh 29 q2 = q4 at *
  go_enter Tryd.func51, Tryd.ntmps51
  go_wp2_with fail
  go_ret
  exact ⟨by rw [EM.out]; rfl, rfl⟩
theorem padAt {s : ByteArray} {f k : Nat} (hk : k < 8) (h : f + k < s.size) : ∃ h2 : k < (pad8 ((s.data.toList.drop f).take 8)).length, (pad8 ((s.data.toList.drop f).take 8))[k] = s[f + k] := by
  have hl : s.data.toList.length = s.size := (Lib.size_eq s).symm
  have h1 : k < ((s.data.toList.drop f).take 8).length := by rw [List.length_take, List.length_drop]; omega
  refine ⟨by unfold pad8; rw [List.length_append]; omega, ?_⟩
  unfold pad8
  rw [List.getElem_append_left h1, List.getElem_take, List.getElem_drop]
  rfl
theorem padZ {s : ByteArray} {f k : Nat} (hk : k < 8) (h : ¬ f + k < s.size) : ∃ h2 : k < (pad8 ((s.data.toList.drop f).take 8)).length, (pad8 ((s.data.toList.drop f).take 8))[k] = 0 := by
  have hl : s.data.toList.length = s.size := (Lib.size_eq s).symm
  have h1 : ((s.data.toList.drop f).take 8).length ≤ k := by rw [List.length_take, List.length_drop]; omega
  have h3 : k < (pad8 ((s.data.toList.drop f).take 8)).length := by rw [pad8_len (by rw [List.length_take]; omega)]; exact hk
  refine ⟨h3, ?_⟩
  unfold pad8 at *
  rw [List.getElem_append_right h1, List.getElem_replicate]
theorem hexd_at : ∀ d : Nat, d < 16 → (⟨#[48, 49, 50, 51, 52, 53, 54, 55, 56, 57, 97, 98, 99, 100, 101, 102]⟩ : ByteArray).extract d (d + 1) = ⟨#[Dg.hexd d]⟩ := by
  intro d hd
  apply ByteArray.ext
  apply Array.ext'
  rw [ext_list]
  rcases lt16 hd with rfl | rfl | rfl | rfl | rfl | rfl | rfl | rfl | rfl | rfl | rfl | rfl | rfl | rfl | rfl | rfl <;> rfl
/-- the state ahead of a place, and behind the last block -/
def RunS (s : ByteArray) (f st : Nat) : Prop := st < Dg.M ∧ ((f ≤ s.size ∧ Dg.run st (s.data.toList.drop f) = Dg.sumN s.data.toList) ∨ (s.size < f ∧ st = Dg.sumN s.data.toList))
theorem runS_step {s : ByteArray} {f st : Nat} (h : RunS s f st) (hf : f ≤ s.size) : RunS s (f + 8) (Dg.step st ((s.data.toList.drop f).take 8)) := by
  have hl : s.data.toList.length = s.size := (Lib.size_eq s).symm
  refine ⟨Dg.step_lt _ _, ?_⟩
  rcases h.2 with ⟨_, hr⟩ | ⟨h, _⟩
  · by_cases h8 : f + 8 ≤ s.size
    · rw [Dg.run_more (by rw [List.length_drop]; omega), List.drop_drop] at hr
      exact .inl ⟨h8, hr⟩
    · rw [Dg.run_last (by rw [List.length_drop]; omega)] at hr
      rw [List.take_of_length_le (by rw [List.length_drop]; omega)]
      exact .inr ⟨by omega, hr⟩
  · omega
set_option maxHeartbeats 2000000 in
set_option maxRecDepth 100000 in
theorem rsum_any (s : ByteArray) (w : World) (hs : s.size ≤ 1000000) :
    Calls Tryd.prog 25 #[.string s] w fun e w' => e = .returned (.string ⟨(Dg.sumL s.data.toList).toArray⟩) ∧ w = w' := by
  have hsM : s.size < Dg.M := Nat.lt_of_le_of_lt hs (by decide)
  have ei : bits .xor .u64 1181783497276652981 (s.size : Int) = ((Dg.init s.size : Nat) : Int) := xor_step 1181783497276652981 s.size (by decide) hsM
  have ew : IntKind.u64.wrap (s.size : Int) = (s.size : Int) := u64w (by omega) (by omega)
  have RS : Hid (RunS s 0 (Dg.init s.size)) := Lib.hid ⟨Dg.init_lt hsM, .inl ⟨Nat.zero_le _, by rw [List.drop_zero]; unfold Dg.sumN; rw [← Lib.size_eq]⟩⟩
  clear hsM
  go_enter Tryd.func25, Tryd.ntmps25
  go_wp2_with fail
  go_loop [3, 4] (fun st i => ∃ f t : Nat, i = .int .i64 f ∧ st = .int .u64 t ∧ f ≤ 1000008 ∧ Hid (RunS s f t)) (fun _ i => 1000100 - (intOf i).toNat)
  case atStart => exact ⟨0, Dg.init s.size, rfl, rfl, by omega, RS⟩
  case round =>
    clear RS ei
    obtain ⟨f, st, rfl, rfl, hf, hr⟩ := hrel
    by_cases hlt : f ≤ s.size
    · have hlti : (f : Int) ≤ (s.size : Int) := by omega
      have d1 : ¬ (s.size : Int) < (f : Int) := by omega
      have e8 : IntKind.i64.wrap ((f : Int) + 8) = (f : Int) + 8 := IntWalk.i64_in _ (by omega)
      have PA : ∀ k, k < 8 → f + k < s.size → ∃ h2 : k < (pad8 ((s.data.toList.drop f).take 8)).length, (pad8 ((s.data.toList.drop f).take 8))[k] = s[f + k]! := fun k hk h => by
        obtain ⟨h2, e⟩ := padAt hk h
        exact ⟨h2, by rw [e, getElem!_pos s (f + k) h]⟩
      have PZ : ∀ k, k < 8 → ¬ f + k < s.size → ∃ h2 : k < (pad8 ((s.data.toList.drop f).take 8)).length, (pad8 ((s.data.toList.drop f).take 8))[k] = 0 := fun k hk h => padZ hk h
      have HPA := Lib.hid PA; have HPZ := Lib.hid PZ; clear PA PZ
      have PL : Hid ((pad8 ((s.data.toList.drop f).take 8)).length = 8) := Lib.hid (pad8_len (by rw [List.length_take]; omega))
      have PB : Hid (Dg.be (pad8 ((s.data.toList.drop f).take 8)) = Dg.blk ((s.data.toList.drop f).take 8)) := Lib.hid be_pad
      have BL : Hid (Dg.blk ((s.data.toList.drop f).take 8) < Dg.M) := Lib.hid (Dg.blk_lt (by rw [List.length_take]; omega))
      have RN := Lib.hid (runS_step hr.out hlt)
      have ES : Hid (Dg.step st ((s.data.toList.drop f).take 8) = Dg.mix (st ^^^ Dg.blk ((s.data.toList.drop f).take 8))) := Lib.hid rfl
      generalize pad8 ((s.data.toList.drop f).take 8) = pad at *
      generalize Dg.blk ((s.data.toList.drop f).take 8) = bk at *
      generalize Dg.step st ((s.data.toList.drop f).take 8) = st2 at *
      go_wp2_with fail
      go_loop [5, 6] (fun b i => ∃ g : Nat, i = .int .i64 g ∧ b = .int .u64 ((Dg.be (pad.take (g - f)) : Nat) : Int) ∧ f ≤ g ∧ g ≤ f + 8) (fun _ i => f + 8 - (intOf i).toNat)
      case atStart => exact ⟨f, rfl, by rw [Nat.sub_self]; rfl, Nat.le_refl _, by omega⟩
      case round =>
        obtain ⟨g, rfl, rfl, hg1, hg2⟩ := hrel
        by_cases hg : g < f + 8
        · have hgi : (g : Int) < (f : Int) + 8 := by omega
          have egf : f + (g - f) = g := by omega
          have eg1 : g + 1 - f = g - f + 1 := by omega
          have hn := be_bound (l := pad) (k := g - f) (by omega)
          have g8 : IntKind.i64.wrap ((g : Int) + 1) = (g : Int) + 1 := IntWalk.i64_in _ (by omega)
          by_cases hgs : g < s.size
          · have hgsi : (g : Int) < (s.size : Int) := by omega
            obtain ⟨h2, e⟩ := HPA.out (g - f) (by omega) (by omega)
            have ET := Lib.hid (be_take h2)
            rw [e] at ET
            simp only [egf] at ET
            have hb := (s[g]!).toNat_lt
            have eb : s[g]! = s[g] := getElem!_pos s g hgs
            rw [eb] at ET hb
            generalize Dg.be (pad.take (g - f)) = n at *
            have w1 : IntKind.u64.wrap ((n : Int) * 256) = (n : Int) * 256 := by rw [IntKind.wrap_u64]; omega
            have w2 : IntKind.u64.wrap ((n : Int) * 256 + ((s[g].toNat : Nat) : Int)) = (n : Int) * 256 + ((s[g].toNat : Nat) : Int) := by rw [IntKind.wrap_u64]; omega
            have w3 : IntKind.u64.wrap ((s[g].toNat : Nat) : Int) = ((s[g].toNat : Nat) : Int) := by rw [IntKind.wrap_u64]; omega
            clear e eb
            go_wp2_with fail
            go_round
            case rel => exact ⟨g + 1, by go_num, by rw [eg1, ET.out]; go_num, by omega, by omega⟩
            case measure => simp [intOf]; omega
          · have hgsi : ¬ (g : Int) < (s.size : Int) := by omega
            obtain ⟨h2, e⟩ := HPZ.out (g - f) (by omega) (by omega)
            have ET := Lib.hid (be_take h2)
            rw [e, show (0 : UInt8).toNat = 0 from rfl, Nat.add_zero] at ET
            generalize Dg.be (pad.take (g - f)) = n at *
            have w1 : IntKind.u64.wrap ((n : Int) * 256) = (n : Int) * 256 := by rw [IntKind.wrap_u64]; omega
            clear e
            go_wp2_with fail
            go_round
            case rel => exact ⟨g + 1, by go_num, by rw [eg1, ET.out]; go_num, by omega, by omega⟩
            case measure => simp [intOf]; omega
        · have hgi : ¬ (g : Int) < (f : Int) + 8 := by omega
          have hgf : g - f = 8 := by omega
          have e8b : Hid (Dg.be (pad.take (g - f)) = bk) := Lib.hid (by rw [hgf, List.take_of_length_le (by rw [PL.out]; omega), PB.out])
          rw [e8b.out]
          have ex : bits .xor .u64 (st : Int) (bk : Int) = ((st ^^^ bk : Nat) : Int) := xor_step st bk hr.out.1 BL.out
          have MX := Lib.hid (fun u => rmix_any (st ^^^ bk) u)
          rw [← ES.out] at MX
          go_wp2_with fail
          refine (MX.out _).mono ?_
          rintro e w' ⟨rfl, rfl⟩
          go_wp2_with fail
          go_round
          case rel => exact ⟨f + 8, st2, by go_num, rfl, by omega, RN⟩
          case measure => simp [intOf]; omega
    · have hlti : ¬ (f : Int) ≤ (s.size : Int) := by omega
      have EQ : Hid (st = Dg.sumN s.data.toList) := Lib.hid (by rcases hr.out.2 with ⟨h, _⟩ | ⟨_, h⟩; omega; exact h)
      have SM := Lib.hid (Dg.sumN_lt s.data.toList)
      have EL : Hid (Dg.sumL s.data.toList = Dg.hex 16 (Dg.sumN s.data.toList)) := Lib.hid rfl
      clear hr
      generalize Dg.sumN s.data.toList = S at *
      obtain ⟨L, hL⟩ : ∃ L, Dg.sumL s.data.toList = L := ⟨_, rfl⟩
      have HL := Lib.hid hL; rw [hL] at EL; clear hL
      have EQ' := EQ.out
      subst EQ'
      clear EQ
      go_wp2_with fail
      go_loop [3, 7, 8] (fun t v i => ∃ (k n : Nat) (u : List UInt8), i = .int .i64 k ∧ t = .int .u64 n ∧ v = .string ⟨u.toArray⟩ ∧ k ≤ 16 ∧ n < 18446744073709551616 ∧ Hid (u.length = k ∧ Dg.hex (16 - k) n ++ u = Dg.hex 16 st)) (fun _ _ i => 16 - (intOf i).toNat)
      case atStart => exact ⟨0, st, [], rfl, rfl, rfl, by omega, SM.out, Lib.hid ⟨rfl, by simp⟩⟩
      case round =>
        obtain ⟨k, n, u, rfl, rfl, rfl, hk, hn, hu⟩ := hrel
        by_cases h16 : k < 16
        · have h16i : (k : Int) < 16 := by omega
          have DA := hexd_at (n % 16) (Nat.mod_lt _ (by decide))
          have m1 : (n : Int) % 16 = ((n % 16 : Nat) : Int) := by omega
          have m3 : (n : Int) / 16 = ((n / 16 : Nat) : Int) := by omega
          have x5 : IntKind.u64.wrap ((n / 16 : Nat) : Int) = ((n / 16 : Nat) : Int) := u64w (by omega) (by omega)
          have hq : n / 16 < 18446744073709551616 := by omega
          have hd : n % 16 < 16 := Nat.mod_lt _ (by decide)
          have IV : Hid ((Dg.hexd (n % 16) :: u).length = k + 1 ∧ Dg.hex (16 - (k + 1)) (n / 16) ++ Dg.hexd (n % 16) :: u = Dg.hex 16 st) := Lib.hid ⟨by rw [List.length_cons, hu.out.1], by
            have h := hu.out.2
            rw [show 16 - k = (16 - (k + 1)) + 1 by omega, Dg.hex, List.append_assoc] at h
            exact h⟩
          have lu := hu.out.1
          generalize n % 16 = d at *
          generalize n / 16 = q at *
          have zz : (⟨#[48, 49, 50, 51, 52, 53, 54, 55, 56, 57, 97, 98, 99, 100, 101, 102]⟩ : ByteArray).size = 16 := rfl
          have x1 : IntKind.u64.wrap ((d : Int) + 1) = (d : Int) + 1 := u64w (by omega) (by omega)
          have x2 : ((d : Int) + 1).toNat = d + 1 := by omega
          have x3 : (d : Int) + 1 ≤ 16 := by omega
          have x4 : (d : Int) ≤ (d : Int) + 1 := by omega
          have zv := size_mk u
          have a1 : ∀ W : World, (Op.stringOp .add ⟨#[Dg.hexd d]⟩ ⟨u.toArray⟩).run Tryd.prog W = .ok (.string ⟨(Dg.hexd d :: u).toArray⟩) W := fun W => by
            rw [run_string_add_sum W _ _ (by rw [zv, show (⟨#[Dg.hexd d]⟩ : ByteArray).size = 1 from rfl]; omega)]
            exact congrArg (fun b => Result.ok (Value.string b) W) (mk_app [Dg.hexd d] u)
          clear hu
          go_wp2_with fail
          go_round
          case rel => exact ⟨k + 1, q, Dg.hexd d :: u, by go_num, rfl, rfl, by omega, hq, IV⟩
          case measure => simp [intOf]; omega
        · have h16i : ¬ (k : Int) < 16 := by omega
          have hk16 : k = 16 := by omega
          subst hk16
          have EU : Hid (u = L) := Lib.hid (by rw [EL.out]; exact hu.out.2)
          clear hu
          go_wp2_with fail
          go_ret
          exact ⟨by rw [HL.out, EU.out]; rfl, rfl⟩
end Go.Proofs.YthceonkdmcidcaaDoor
