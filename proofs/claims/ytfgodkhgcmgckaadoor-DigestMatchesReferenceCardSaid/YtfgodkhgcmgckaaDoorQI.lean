/- WALK: DigestMatchesReference. -/
import Derived.Test.YtfgodkhgcmgckaaDoorQD
import Derived.Test.YtfgodkhgcmgckaaDoorQH
set_option linter.unusedSimpArgs false
set_option linter.unusedVariables false
namespace Go.Proofs.YtfgodkhgcmgckaaDoor
open Go.RowKit

set_option maxHeartbeats 4000000 in
set_option maxRecDepth 100000 in
theorem walk_DigestMatchesReference (t : ByteArray) (A : Option Addr) (n c : Nat) (l : List ByteArray) (w : World) (ht0 : t.size ≤ 9223372036854775807) (hl : StrArg w A n c l) (ht : Tab w) :
    Calls Tryd.prog 3 #[.string t, .slice A n c] w fun e w' => e = .returned (.bool true) ∧ Below w.heap.size w w' := by
  have HD := Lib.hid (head_any w ht)
  have HT := Lib.hid ht; clear ht
  obtain ⟨rfl, hnc, hc, hr⟩ := hl
  have HR := Lib.hid hr; clear hr
  go_enter Tryd.func3, Tryd.ntmps3
  go_wp2_with fail
  refine HD.out.mono ?_
  rintro e w1 ⟨rfl, hb1⟩
  have B1 := Lib.hid hb1; clear hb1
  by_cases h2 : 2000 < t.size
  · have h2i : (2000 : Int) < t.size := by omega
    go_wp2_with fail
    go_ret
    exact ⟨rfl, B1.out⟩
  have h2i : ¬ (2000 : Int) < t.size := by omega
  go_wp2_with fail
  refine (few_any A _ c l 200 w1 rfl (by omega) (by omega) (HR.out.below B1.out)).mono ?_
  rintro e w1' ⟨⟨b, rfl, hfew⟩, rfl⟩
  have FW := Lib.hid hfew; clear hfew
  cases b with
  | false =>
    go_wp2_with fail
    go_ret
    exact ⟨rfl, B1.out⟩
  | true =>
    obtain ⟨hl30, hs⟩ := FW.out rfl
    have HS : Hid (∀ s ∈ l, s.size ≤ 300) := Lib.hid (fun s h => Nat.le_trans (hs s h) (by decide)); clear hs FW
    have S1 := Lib.hid (fun u => sum_any t u (by omega))
    have S2 := Lib.hid (fun u => rsum_any t u (by omega))
    have S3 := Lib.hid (fun u => is_any t u (by omega))
    have S4 := Lib.hid (fun u => ris_any t u (by omega))
    generalize (⟨(Dg.sumL t.data.toList).toArray⟩ : ByteArray) = d1 at *
    have q1 := str_eq_t (rfl : d1 = d1)
    go_wp2_with fail
    refine (S1.out _).mono ?_
    rintro e w2 ⟨rfl, hb2⟩
    have B2 := Lib.hid (B1.out.trans (hb2.mono B1.out.size)); clear hb2 B1
    go_wp2_with fail
    refine (S2.out _).mono ?_
    rintro e w2' ⟨rfl, rfl⟩
    have L1 := Lib.hid (list_any A _ c l w2 rfl hl30 HS.out (HT.out.keep B2.out) (HR.out.below B2.out))
    have L2 : Hid (∀ w3, Below w.heap.size w w3 → Calls Tryd.prog 13 #[.slice A l.length c] w3 fun e w' => e = .returned (.string ⟨(Dg.sumL (Dg.joined (bys l))).toArray⟩) ∧ Below w3.heap.size w3 w') := Lib.hid (fun w3 h => rlist_any A _ c l w3 rfl hl30 HS.out (HR.out.below h))
    generalize (⟨(Dg.sumL (Dg.joined (bys l))).toArray⟩ : ByteArray) = d2 at *
    have q2 := str_eq_t (rfl : d2 = d2)
    go_wp2_with fail
    refine L1.out.mono ?_
    rintro e w3 ⟨rfl, hb3⟩
    have B3 := Lib.hid (B2.out.trans (hb3.mono B2.out.size)); clear hb3
    go_wp2_with fail
    refine (L2.out w3 B3.out).mono ?_
    rintro e w4 ⟨rfl, hb4⟩
    have B4 := Lib.hid (B3.out.trans (hb4.mono B3.out.size)); clear hb4
    generalize Dg.isD t.data.toList = r at *
    have q3 : (r == r) = true := by simp
    go_wp2_with fail
    refine (S3.out _).mono ?_
    rintro e w5 ⟨rfl, hb5⟩
    have B5 := Lib.hid (B4.out.trans (hb5.mono B4.out.size)); clear hb5
    go_wp2_with fail
    refine (S4.out _).mono ?_
    rintro e w5' ⟨rfl, rfl⟩
    go_wp2_with fail
    go_ret
    exact ⟨rfl, B5.out⟩
end Go.Proofs.YtfgodkhgcmgckaaDoor
