/- WALKS: the reference's Is and List. -/
import Derived.Test.YthceonkdmcidcaaDoorQF
import Derived.Test.YthceonkdmcidcaaDoorQG
set_option linter.unusedSimpArgs false
set_option linter.unusedVariables false
namespace Go.Proofs.YthceonkdmcidcaaDoor
open Go.RowKit

def DigitSaid (b : UInt8) (e : Ending) : Prop := ∃ v : Int, e = .returned (.int .i64 v) ∧ decide (v < 0) = !Dg.isHex b
theorem digit_mk {b : UInt8} {v : Int} (h : decide (v < 0) = !Dg.isHex b) : DigitSaid b (.returned (.int .i64 v)) := ⟨v, rfl, h⟩
set_option maxHeartbeats 1000000 in
theorem digit_any (b : UInt8) (w : World) : Calls Tryd.prog 60 #[.int .u8 (b.toNat : Int)] w fun e w' => DigitSaid b e ∧ w = w' := by
  have hb := b.toNat_lt
  have HX : Hid (Dg.isHex b = ((decide (48 ≤ b.toNat) && decide (b.toNat ≤ 57)) || (decide (97 ≤ b.toNat) && decide (b.toNat ≤ 102)))) := Lib.hid rfl
  generalize b.toNat = n at *
  by_cases h1 : 48 ≤ n ∧ n ≤ 57
  · have i1 : (48 : Int) ≤ (n : Int) := by omega
    have i2 : (n : Int) ≤ 57 := by omega
    have w1 : IntKind.u8.wrap ((n : Int) - 48) = (n : Int) - 48 := by rw [IntKind.wrap]; simp [IntKind.signed, IntKind.bits]; omega
    have w2 : IntKind.i64.wrap ((n : Int) - 48) = (n : Int) - 48 := IntWalk.i64_in _ (by omega)
    have e1 : decide ((n : Int) - 48 < 0) = !Dg.isHex b := by rw [HX.out]; simp [h1.1, h1.2]; omega
    go_enter Tryd.func60, Tryd.ntmps60
    go_wp2_with fail
    go_ret
    exact ⟨digit_mk e1, rfl⟩
  · by_cases h2 : 97 ≤ n ∧ n ≤ 102
    · have i1 : (48 : Int) ≤ (n : Int) := by omega
      have i2 : ¬ (n : Int) ≤ 57 := by omega
      have i3 : (97 : Int) ≤ (n : Int) := by omega
      have i4 : (n : Int) ≤ 102 := by omega
      have w1 : IntKind.u8.wrap ((n : Int) - 97) = (n : Int) - 97 := by rw [IntKind.wrap]; simp [IntKind.signed, IntKind.bits]; omega
      have w2 : IntKind.i64.wrap ((n : Int) - 97) = (n : Int) - 97 := IntWalk.i64_in _ (by omega)
      have w3 : IntKind.i64.wrap ((n : Int) - 97 + 10) = (n : Int) - 97 + 10 := IntWalk.i64_in _ (by omega)
      have e1 : decide ((n : Int) - 97 + 10 < 0) = !Dg.isHex b := by rw [HX.out]; simp [h2.1, h2.2]; omega
      go_enter Tryd.func60, Tryd.ntmps60
      go_wp2_with fail
      go_ret
      exact ⟨digit_mk e1, rfl⟩
    · have e1 : decide ((-1 : Int) < 0) = !Dg.isHex b := by
        rw [HX.out]
        have a1 : ¬ (48 ≤ n ∧ n ≤ 57) := h1
        simp
        constructor <;> omega
      by_cases c1 : 48 ≤ n
      · have i1 : (48 : Int) ≤ (n : Int) := by omega
        have i2 : ¬ (n : Int) ≤ 57 := by omega
        by_cases c2 : 97 ≤ n
        · have i3 : (97 : Int) ≤ (n : Int) := by omega
          have i4 : ¬ (n : Int) ≤ 102 := by omega
          go_enter Tryd.func60, Tryd.ntmps60
          go_wp2_with fail
          go_ret
          exact ⟨digit_mk e1, rfl⟩
        · have i3 : ¬ (97 : Int) ≤ (n : Int) := by omega
          go_enter Tryd.func60, Tryd.ntmps60
          go_wp2_with fail
          go_ret
          exact ⟨digit_mk e1, rfl⟩
      · have i1 : ¬ (48 : Int) ≤ (n : Int) := by omega
        have i3 : ¬ (97 : Int) ≤ (n : Int) := by omega
        go_enter Tryd.func60, Tryd.ntmps60
        go_wp2_with fail
        go_ret
        exact ⟨digit_mk e1, rfl⟩
theorem isD_bad {s : ByteArray} {k : Nat} (hk : k < s.size) (h : Dg.isHex s[k] = false) : Dg.isD s.data.toList = false := by
  unfold Dg.isD
  rw [Bool.and_eq_false_iff]
  refine .inr ?_
  rw [List.all_eq_false]
  exact ⟨s[k], by rw [show s[k] = s.data.toList[k]'(by rw [← Lib.size_eq]; exact hk) from rfl]; exact List.getElem_mem _, by rw [h]; simp⟩
theorem isD_good {s : ByteArray} (h16 : s.size = 16) (h : ∀ j (_ : j < 16) (hj : j < s.size), Dg.isHex s[j] = true) : Dg.isD s.data.toList = true := by
  unfold Dg.isD
  rw [Bool.and_eq_true, List.all_eq_true]
  refine ⟨by rw [← Lib.size_eq]; simpa using h16, fun x hx => ?_⟩
  obtain ⟨i, hi, rfl⟩ := List.mem_iff_getElem.1 hx
  have hi2 : i < s.size := by rw [Lib.size_eq]; exact hi
  exact h i (by omega) hi2
set_option maxHeartbeats 1000000 in
theorem ris_any (s : ByteArray) (w : World) (hs : s.size ≤ 9223372036854775807) :
    Calls Tryd.prog 43 #[.string s] w fun e w' => e = .returned (.bool (Dg.isD s.data.toList)) ∧ w = w' := by
  go_enter Tryd.func43, Tryd.ntmps43
  go_wp2_with fail
  go_loop [3] (fun i => ∃ k : Nat, i = .int .i64 k ∧ k ≤ 16 ∧ k ≤ s.size ∧ Hid (∀ j (_ : j < k) (hj : j < s.size), Dg.isHex s[j] = true)) (fun i => 16 - (intOf i).toNat)
  case atStart => exact ⟨0, rfl, by omega, by omega, by intro j h; omega⟩
  case round =>
    obtain ⟨k, rfl, hk1, hk2, hok⟩ := hrel
    by_cases h1 : k < s.size
    · have i1 : (k : Int) < (s.size : Int) := by omega
      by_cases h2 : k < 16
      · have i2 : (k : Int) < 16 := by omega
        have k8 : IntKind.i64.wrap ((k : Int) + 1) = (k : Int) + 1 := IntWalk.i64_in _ (by omega)
        go_wp2_with fail
        refine (digit_any _ _).mono ?_
        rintro e w' ⟨⟨v, rfl, hv⟩, rfl⟩
        rcases hx : Dg.isHex s[k] with _ | _
        · rw [hx] at hv
          have EF := Lib.hid (isD_bad h1 hx)
          have v1 : v < 0 := by simpa using hv
          clear hv hx hok
          go_wp2_with fail
          go_ret
          exact ⟨by rw [EF.out]; rfl, rfl⟩
        · rw [hx] at hv
          have v1 : ¬ v < 0 := by simpa using hv
          have HX := Lib.hid hx
          clear hv hx
          go_wp2_with fail
          go_round
          case rel => exact ⟨k + 1, by go_num, by omega, by omega, fun j hj h => by
            rcases Nat.lt_succ_iff_lt_or_eq.1 hj with h3 | rfl
            · exact hok.out j h3 h
            · exact HX.out⟩
          case measure => simp [intOf]; omega
      · have i2 : ¬ (k : Int) < 16 := by omega
        have n16 : s.size ≠ 16 := by omega
        have EF := Lib.hid (Dg.isD_long (l := s.data.toList) (by rw [← Lib.size_eq]; exact n16))
        have d3 : ((s.size : Int) == 16) = false := by simp; omega
        go_wp2_with fail
        go_ret
        exact ⟨by rw [EF.out]; rfl, rfl⟩
    · have i1 : ¬ (k : Int) < (s.size : Int) := by omega
      by_cases h16 : s.size = 16
      · have EF := Lib.hid (isD_good h16 (fun j hj h => hok.out j (by omega) h))
        have d3 : ((s.size : Int) == 16) = true := by simp; omega
        clear hok
        go_wp2_with fail
        go_ret
        exact ⟨by rw [EF.out]; rfl, rfl⟩
      · have EF := Lib.hid (Dg.isD_long (l := s.data.toList) (by rw [← Lib.size_eq]; exact h16))
        have d3 : ((s.size : Int) == 16) = false := by simp; omega
        go_wp2_with fail
        go_ret
        exact ⟨by rw [EF.out]; rfl, rfl⟩
set_option maxHeartbeats 400000 in
theorem rlist_any (A : Option Addr) (n c : Nat) (l : List ByteArray) (w : World) (hn : n = l.length) (hlen : l.length ≤ 30) (hs : ∀ s ∈ l, s.size ≤ 300) (h : Rd w A (l.map Value.string)) :
    Calls Tryd.prog 44 #[.slice A n c] w fun e w' => e = .returned (.string ⟨(Dg.sumL (Dg.joined (bys l))).toArray⟩) ∧ Below w.heap.size w w' := by
  subst hn
  have JA := Lib.hid (joined_any A _ c l w rfl hlen hs h)
  have JS := joined_size hs l.length (Nat.le_refl _)
  rw [List.take_length] at JS
  have z2 : (Dg.joined (bys l)).length ≤ 1000000 := by omega
  have z3 : (⟨(Dg.joined (bys l)).toArray⟩ : ByteArray).size ≤ 1000000 := Nat.le_trans (Nat.le_of_eq (size_mk _)) z2
  have RSM : Hid (∀ u, Calls Tryd.prog 25 #[.string ⟨(Dg.joined (bys l)).toArray⟩] u fun e w' => e = .returned (.string ⟨(Dg.sumL (Dg.joined (bys l))).toArray⟩) ∧ u = w') := Lib.hid (fun u => rsum_any ⟨(Dg.joined (bys l)).toArray⟩ u z3)
  clear h hs JS z2 z3
  generalize Dg.joined (bys l) = J at *
  generalize Dg.sumL J = D at *
  go_enter Tryd.func44, Tryd.ntmps44
  go_wp2_with fail
  refine JA.out.mono ?_
  rintro e w1 ⟨rfl, hb1⟩
  have B1 := Lib.hid hb1; clear hb1
  go_wp2_with fail
  refine (RSM.out _).mono ?_
  rintro e w2 ⟨rfl, rfl⟩
  go_wp2_with fail
  go_ret
  exact ⟨rfl, B1.out⟩
end Go.Proofs.YthceonkdmcidcaaDoor
