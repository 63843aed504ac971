/- WALKS: the reference's Few. -/
import Derived.Test.YtfgodkhgcmgckaaDoorQA
set_option linter.unusedSimpArgs false
set_option linter.unusedVariables false
namespace Go.Proofs.YtfgodkhgcmgckaaDoor
open Go.RowKit

def FewSaid (l : List ByteArray) (m : Nat) (b : Bool) : Prop := b = true → l.length ≤ 30 ∧ ∀ s ∈ l, s.size ≤ m
theorem few_not {l : List ByteArray} {m : Nat} : FewSaid l m false := fun h => by cases h
theorem few_end {l : List ByteArray} {m : Nat} (h : ∀ j (h : j < l.length), l[j].size ≤ m) : FewSaid l m (decide ((l.length : Int) ≤ 30)) := fun e => ⟨by have := of_decide_eq_true e; omega, fun s hs => by obtain ⟨i, hi, rfl⟩ := List.mem_iff_getElem.1 hs; exact h i hi⟩
set_option maxHeartbeats 400000 in
theorem few_any (A : Option Addr) (n c : Nat) (l : List ByteArray) (m : Nat) (w : World) (hn : n = l.length) (hl : l.length ≤ 9223372036854775807) (hm : m ≤ 9223372036854775807) (h : Rd w A (l.map Value.string)) :
    Calls Tryd.prog 9 #[.slice A n c, .int .i64 m] w fun e w' => SomeBool (FewSaid l m) e ∧ w = w' := by
  subst hn
  have H := Lib.hid h; clear h
  go_enter Tryd.func9, Tryd.ntmps9
  go_wp2
  go_loop [5] (fun i => ∃ k : Nat, k ≤ l.length ∧ i = .int .i64 k ∧ Hid (∀ j (_ : j < k) (h : j < l.length), l[j].size ≤ m)) (fun i => l.length - (intOf i).toNat)
  case atStart => exact ⟨0, Nat.zero_le _, rfl, by intro j h; omega⟩
  case round =>
    obtain ⟨k, hk, rfl, hno⟩ := hrel
    by_cases hlt : k < l.length
    · obtain ⟨b, off, rfl, hb, hc⟩ := H.out.map_at hlt
      by_cases hs : m < l[k].size
      · have hsi : (m : Int) < l[k].size := by omega
        go_wp2
        go_ret
        exact ⟨⟨false, rfl, few_not⟩, rfl⟩
      · have hsi : ¬ (m : Int) < l[k].size := by omega
        have HS := Lib.hid hs; clear hs
        go_wp2
        go_round
        case rel => exact ⟨k + 1, hlt, by go_num, fun j hj h => by
          rcases Nat.lt_succ_iff_lt_or_eq.1 hj with h1 | rfl
          · exact hno.out j h1 h
          · exact Nat.le_of_not_lt HS.out⟩
        case measure => simp [intOf]; omega
    · go_wp2
      go_ret
      exact ⟨⟨_, rfl, few_end fun j h => hno.out j (by omega) h⟩, rfl⟩

end Go.Proofs.YtfgodkhgcmgckaaDoor
