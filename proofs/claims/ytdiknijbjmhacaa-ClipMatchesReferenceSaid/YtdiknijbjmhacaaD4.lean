/- WALKS: near points, all of them. -/
import Derived.Test.YtdiknijbjmhacaaD3
set_option linter.unusedSimpArgs false
set_option linter.unusedVariables false
namespace Go.Proofs.Ytdiknijbjmhacaa
open Go.RowKit

theorem all_near {l : List Cl.Pt} (h : ∀ j (h : j < l.length), Cl.nearB l[j].1 l[j].2 = true) : (l.all fun p => Cl.nearB p.1 p.2) = true := by
  rw [List.all_eq_true]; intro p hp
  obtain ⟨j, hj, rfl⟩ := List.mem_iff_getElem.1 hp
  exact h j hj
theorem not_near {l : List Cl.Pt} {k : Nat} (hk : k < l.length) (h : Cl.nearB l[k].1 l[k].2 = false) : (l.all fun p => Cl.nearB p.1 p.2) = false := by
  rw [List.all_eq_false]; exact ⟨l[k], List.getElem_mem _, by simp [h]⟩
set_option maxHeartbeats 800000 in
theorem rnear_any (A : Option Addr) (n c : Nat) (l : List Cl.Pt) (w : World) (hn : n = l.length) (hl : n ≤ 9223372036854775807) (h : Rp w A l) :
    Calls Try.prog 31 #[.slice A n c] w fun e w' => e = .returned (.bool (l.all fun p => Cl.nearB p.1 p.2)) ∧ Below w.heap.size w w' := by
  have H := Lib.hid h; have HN := Lib.hid hn; clear h hn
  go_enter Try.func31, Try.ntmps31
  go_wp2_with fail
  go_loopw [3] (fun i wr => ∃ k : Nat, k ≤ n ∧ i = .int .i64 k ∧ Hid (∀ j (_ : j < k) (h : j < l.length), Cl.nearB l[j].1 l[j].2 = true) ∧ Hid (Below w.heap.size w wr)) (fun i _ => n - (intOf i).toNat)
  case atStart => exact ⟨0, Nat.zero_le _, rfl, Lib.hid (by intro j h; omega), Below.refl _ _⟩
  case round =>
    obtain ⟨k, hk, rfl, hno, hbel⟩ := hrel
    by_cases hlt : k < n
    · have hll : k < l.length := by have := HN.out; omega
      obtain ⟨b, off, rfl, hb, hc1, hc2⟩ := (H.out.below hbel.out).at_ hll
      obtain ⟨x, hx⟩ : ∃ x, x = l[k].1 := ⟨_, rfl⟩
      obtain ⟨y, hy⟩ : ∃ y, y = l[k].2 := ⟨_, rfl⟩
      rw [← hx] at hc1
      rw [← hy] at hc2
      have HX := Lib.hid hx; have HY := Lib.hid hy; clear hx hy
      rcases hn : Cl.nearB x y with _ | _
      · have HF : Hid ((l.all fun p => Cl.nearB p.1 p.2) = false) := Lib.hid (not_near hll (by rw [← HX.out, ← HY.out]; exact hn))
        have HE := Lib.hid hn; clear hn
        go_wp2_with fail
        refine (is_any x y _).mono ?_
        rw [HE.out]
        rintro e w1 ⟨rfl, hb1⟩
        have HB1 := Lib.hid hb1; clear hb1
        go_wp2
        go_ret
        exact ⟨ret_bool HF.out.symm, hbel.out.trans (HB1.out.mono hbel.out.size)⟩
      · have HE := Lib.hid hn; clear hn
        go_wp2_with fail
        refine (is_any x y _).mono ?_
        rw [HE.out]
        rintro e w1 ⟨rfl, hb1⟩
        have HB1 := Lib.hid hb1; clear hb1
        go_wp2
        exact ⟨⟨k + 1, hlt, by go_num, Lib.hid (fun j hj h => by
          rcases Nat.lt_succ_iff_lt_or_eq.1 hj with h1 | rfl
          · exact hno.out j h1 h
          · rw [← HX.out, ← HY.out]; exact HE.out), Lib.hid (hbel.out.trans (HB1.out.mono hbel.out.size))⟩, by simp [intOf]; omega⟩
    · have HF : Hid ((l.all fun p => Cl.nearB p.1 p.2) = true) := Lib.hid (all_near fun j h => hno.out j (by have := HN.out; omega) h)
      go_wp2
      go_ret
      exact ⟨ret_bool HF.out.symm, hbel.out⟩
end Go.Proofs.Ytdiknijbjmhacaa
