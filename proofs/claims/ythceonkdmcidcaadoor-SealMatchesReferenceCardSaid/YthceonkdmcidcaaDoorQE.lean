/- WALKS: the reference's Decimal. -/
import Derived.Test.YthceonkdmcidcaaDoorQC0
set_option linter.unusedSimpArgs false
set_option linter.unusedVariables false
namespace Go.Proofs.YthceonkdmcidcaaDoor
open Go.RowKit

theorem digit_at : ∀ d : Nat, d < 10 → (⟨#[48, 49, 50, 51, 52, 53, 54, 55, 56, 57]⟩ : ByteArray).extract d (d + 1) = ⟨#[Dg.decd d]⟩ := by
  intro d hd
  apply ByteArray.ext
  apply Array.ext'
  rw [ext_list]
  rcases d with _ | _ | _ | _ | _ | _ | _ | _ | _ | _ | d
  all_goals first | (exfalso; omega) | rfl
theorem mk_app (a b : List UInt8) : ((⟨a.toArray⟩ : ByteArray) ++ (⟨b.toArray⟩ : ByteArray)) = ⟨(a ++ b).toArray⟩ := by
  apply ByteArray.ext
  simp [ByteArray.data_append]

theorem u64w {x : Int} (h0 : 0 ≤ x) (h1 : x < 18446744073709551616) : IntKind.u64.wrap x = x := by rw [IntKind.wrap]; simp [IntKind.signed, IntKind.bits]; omega
/-- what is left to print, and what stands printed -/
def DigS (N k : Nat) (v : List UInt8) : Prop := (k = 0 ∧ v = Dg.dec N) ∨ (0 < k ∧ Dg.dec k ++ v = Dg.dec N)
theorem digS_step {N k : Nat} {v : List UInt8} (h : DigS N k v) (hk : 0 < k) : DigS N (k / 10) (Dg.decd (k % 10) :: v) := by
  rcases h with ⟨h, _⟩ | ⟨_, h⟩
  · omega
  · by_cases h10 : k < 10
    · rw [Dg.dec_one h10] at h
      exact .inl ⟨by omega, by rw [Nat.mod_eq_of_lt h10]; exact h⟩
    · rw [Dg.dec_more h10, List.append_assoc] at h
      exact .inr ⟨by omega, h⟩
theorem digS_len {N k : Nat} {v : List UInt8} (h : DigS N k v) (hN : N < 10000000000000000000) : v.length ≤ 20 := by
  have h2 := dec_len 20 N (Nat.lt_trans hN (by decide)) (by decide)
  rcases h with ⟨_, h⟩ | ⟨_, h⟩
  · rw [h]; exact h2
  · rw [← h, List.length_append] at h2; omega
set_option maxHeartbeats 1000000 in
theorem rdigits_any (N : Nat) (w : World) (hN : N < 10000000000000000000) :
    Calls Tryd.prog 70 #[.int .u64 N] w fun e w' => e = .returned (.string ⟨(Dg.dec N).toArray⟩) ∧ w = w' := by
  have DA := digit_at (N % 10) (Nat.mod_lt _ (by decide))
  have m1 : (N : Int) % 10 = ((N % 10 : Nat) : Int) := by omega
  have m3 : (N : Int) / 10 = ((N / 10 : Nat) : Int) := by omega
  have hm : N % 10 < 10 := Nat.mod_lt _ (by decide)
  have x5 : IntKind.u64.wrap ((N / 10 : Nat) : Int) = ((N / 10 : Nat) : Int) := u64w (by omega) (by omega)
  have hqN : N / 10 < 1000000000000000000 := by omega
  have IV : Hid (DigS N (N / 10) [Dg.decd (N % 10)]) := Lib.hid (by
    by_cases h : N < 10
    · exact .inl ⟨by omega, by rw [Dg.dec_one h, Nat.mod_eq_of_lt h]⟩
    · exact .inr ⟨by omega, (Dg.dec_more h).symm⟩)
  have HN := Lib.hid hN; clear hN
  generalize N % 10 = d at *
  generalize N / 10 = q at *
  have zz : (⟨#[48, 49, 50, 51, 52, 53, 54, 55, 56, 57]⟩ : ByteArray).size = 10 := rfl
  have x1 : IntKind.u64.wrap ((d : Int) + 1) = (d : Int) + 1 := u64w (by omega) (by omega)
  have x2 : ((d : Int) + 1).toNat = d + 1 := by omega
  have x3 : (d : Int) + 1 ≤ 10 := by omega
  have x4 : (d : Int) ≤ (d : Int) + 1 := by omega
  go_enter Tryd.func70, Tryd.ntmps70
  go_wp2_with fail
  go_loop [0, 3] (fun i s => ∃ (k : Nat) (v : List UInt8), i = .int .u64 k ∧ s = .string ⟨v.toArray⟩ ∧ k < 1000000000000000000 ∧ Hid (DigS N k v)) (fun i _ => (intOf i).toNat)
  case atStart => exact ⟨q, [Dg.decd d], rfl, rfl, hqN, IV⟩
  case round =>
    clear IV DA m1 m3 hm x5 hqN x1 x2 x3 x4
    obtain ⟨k, v, rfl, rfl, hk, hv⟩ := hrel
    by_cases h0 : 0 < k
    · have h0i : (0 : Int) < (k : Int) := by omega
      have DA := digit_at (k % 10) (Nat.mod_lt _ (by decide))
      have m1 : (k : Int) % 10 = ((k % 10 : Nat) : Int) := by omega
      have m3 : (k : Int) / 10 = ((k / 10 : Nat) : Int) := by omega
      have hm : k % 10 < 10 := Nat.mod_lt _ (by decide)
      have x5 : IntKind.u64.wrap ((k / 10 : Nat) : Int) = ((k / 10 : Nat) : Int) := u64w (by omega) (by omega)
      have hq2 : k / 10 < k := by omega
      have IV := Lib.hid (digS_step hv.out h0)
      have LV := digS_len hv.out HN.out
      generalize k % 10 = d at *
      generalize k / 10 = q at *
      have x1 : IntKind.u64.wrap ((d : Int) + 1) = (d : Int) + 1 := u64w (by omega) (by omega)
      have x2 : ((d : Int) + 1).toNat = d + 1 := by omega
      have x3 : (d : Int) + 1 ≤ 10 := by omega
      have x4 : (d : Int) ≤ (d : Int) + 1 := by omega
      have zv := size_mk v
      have a1 : ∀ u : World, (Op.stringOp .add ⟨#[Dg.decd d]⟩ ⟨v.toArray⟩).run Tryd.prog u = .ok (.string ⟨(Dg.decd d :: v).toArray⟩) u := fun u => by
        rw [run_string_add_sum u _ _ (by rw [zv, show (⟨#[Dg.decd d]⟩ : ByteArray).size = 1 from rfl]; omega)]
        exact congrArg (fun b => Result.ok (Value.string b) u) (mk_app [Dg.decd d] v)
      go_wp2_with fail
      go_round
      case rel => exact ⟨q, Dg.decd d :: v, rfl, rfl, by omega, IV⟩
      case measure => simp [intOf]; omega
    · have h0i : ¬ (0 : Int) < (k : Int) := by omega
      have hk0 : k = 0 := by omega
      subst hk0
      have EV : Hid (v = Dg.dec N) := Lib.hid (by rcases hv.out with ⟨_, h⟩ | ⟨h, _⟩; exact h; omega)
      go_wp2_with fail
      go_ret
      exact ⟨by rw [EV.out]; rfl, rfl⟩
theorem rdecimal_any (N : Nat) (w : World) (hN : N ≤ 9223372036854775807) :
    Calls Tryd.prog 48 #[.int .i64 N] w fun e w' => e = .returned (.string ⟨(Dg.dec N).toArray⟩) ∧ w = w' := by
  have RD := Lib.hid (fun u => rdigits_any N u (by omega))
  have x5 : IntKind.u64.wrap (N : Int) = (N : Int) := u64w (by omega) (by omega)
  go_enter Tryd.func48, Tryd.ntmps48
  go_wp2_with fail
  refine (RD.out _).mono ?_
  rintro e w1 ⟨rfl, rfl⟩
  go_wp2_with fail
  go_ret
  exact ⟨rfl, rfl⟩
end Go.Proofs.YthceonkdmcidcaaDoor
