/- WALK: DigestBlock. -/
import Derived.Test.YtfgodkhgcmgckaaDoorQ9
import Derived.Test.YtfgodkhgcmgckaaDoorQC0
import Derived.Lib.MinMax
import Derived.Deep.QuietTactic
import Derived.BigQuiet
import Derived.Deep.RegionHeld3
import Derived.Deep.DrawnRows
set_option linter.unusedSimpArgs false
set_option linter.unusedVariables false
namespace Go.Proofs.YtfgodkhgcmgckaaDoor
open Go.RowKit

attribute [local go_sem] run_min3
set_option maxHeartbeats 2000000 in
set_option maxRecDepth 100000 in
theorem walk_DigestBlock (t : ByteArray) (x : Int) (a b : ByteArray) (w : World) (ht0 : t.size ≤ 9223372036854775807) (hx0 : 0 ≤ x) (hx1 : x ≤ 255) (ha : a.size ≤ 9223372036854775807) (hb : b.size ≤ 9223372036854775807) (ht : Tab w) :
    Calls Tryd.prog 6 #[.string t, .int .u8 x, .string a, .string b] w fun e w' => e = .returned (.bool true) ∧ Below w.heap.size w w' := by
  have HD := Lib.hid (head_any w ht); clear ht
  obtain ⟨p, rfl⟩ : ∃ p : Nat, x = p := ⟨x.toNat, by omega⟩
  obtain ⟨n, hn⟩ : ∃ n : Nat, min (min (a.size : Int) b.size) 8 = n := ⟨min (min a.size b.size) 8, by omega⟩
  have n1 : n ≤ a.size := by omega
  have n2 : n ≤ b.size := by omega
  have n3 : n ≤ 8 := by omega
  have za : (a.extract 0 n).size = n := by rw [ByteArray.size_extract]; omega
  have zb : (b.extract 0 n).size = n := by rw [ByteArray.size_extract]; omega
  have n1i : (n : Int) ≤ a.size := by omega
  have n2i : (n : Int) ≤ b.size := by omega
  have w8 : IntKind.i64.wrap (8 * (p : Int)) = 8 * (p : Int) := IntWalk.i64_in _ (by omega)
  have w9 : IntKind.i64.wrap (p : Int) = (p : Int) := IntWalk.i64_in _ (by omega)
  have nf : (n : Int).toNat = n := by omega
  go_enter Tryd.func6, Tryd.ntmps6
  go_wp2_with fail
  refine HD.out.mono ?_
  rintro e w1 ⟨rfl, hb1⟩
  have B1 := Lib.hid hb1; clear hb1
  by_cases h2 : 2000 < t.size
  · have h2i : (2000 : Int) < t.size := by omega
    go_wp2_with fail
    go_ret
    exact ⟨rfl, B1.out⟩
  by_cases h3 : t.size < 8 * p
  · have h2i : ¬ (2000 : Int) < t.size := by omega
    have h3i : (t.size : Int) < 8 * (p : Int) := by omega
    go_wp2_with fail
    go_ret
    exact ⟨rfl, B1.out⟩
  have h2i : ¬ (2000 : Int) < t.size := by omega
  have h3i : ¬ (t.size : Int) < 8 * (p : Int) := by omega
  have h3j : 8 * (p : Int) ≤ (t.size : Int) := by omega
  have w10 : IntKind.i64.wrap (8 * (p : Int) + n) = 8 * (p : Int) + n := IntWalk.i64_in _ (by omega)
  obtain ⟨r, hr⟩ : ∃ r : Nat, min (8 * (p : Int) + n) t.size = r := ⟨min (8 * p + n) t.size, by omega⟩
  have hr1 : (r : Int) ≤ t.size := by omega
  have hp0 : (0 : Int) ≤ 8 * (p : Int) := by omega
  go_wp2_with fail
  have et : (8 * (p : Int)).toNat = 8 * p := by omega
  have zt : (t.extract 0 (8 * p)).size = 8 * p := by rw [ByteArray.size_extract]; omega
  have zr : (t.extract r t.size).size ≤ 2000 := by rw [ByteArray.size_extract]; omega
  generalize a.extract 0 n = A at *
  generalize b.extract 0 n = B at *
  generalize t.extract r t.size = R at *
  have BI := Lib.hid (Dg.block_iff (t := (t.extract 0 (8 * p)).data.toList) (a := A.data.toList) (b := B.data.toList) (r := R.data.toList) (by rw [← Lib.size_eq, zt]; omega) (by rw [← Lib.size_eq, ← Lib.size_eq]; omega) (by rw [← Lib.size_eq]; omega) (by rw [List.length_append, List.length_append, ← Lib.size_eq, ← Lib.size_eq, ← Lib.size_eq]; exact Nat.lt_of_le_of_lt (show _ ≤ 5000 by omega) (by decide)))
  have cat : ∀ C : ByteArray, (t.extract 0 (8 * p) ++ C ++ R).data.toList = (t.extract 0 (8 * p)).data.toList ++ C.data.toList ++ R.data.toList := fun C => by rw [ByteArray.data_append, ByteArray.data_append, Array.toList_append, Array.toList_append]
  have SA := Lib.hid (fun u => sum_any (t.extract 0 (8 * p) ++ A ++ R) u (by rw [ByteArray.size_append, ByteArray.size_append]; omega))
  have SB := Lib.hid (fun u => sum_any (t.extract 0 (8 * p) ++ B ++ R) u (by rw [ByteArray.size_append, ByteArray.size_append]; omega))
  have a1 : ∀ u : World, (Op.stringOp .add (t.extract 0 (8 * p)) A).run Tryd.prog u = .ok (.string (t.extract 0 (8 * p) ++ A)) u := fun u => run_string_add_sum u _ _ (by omega)
  have a2 : ∀ u : World, (Op.stringOp .add (t.extract 0 (8 * p)) B).run Tryd.prog u = .ok (.string (t.extract 0 (8 * p) ++ B)) u := fun u => run_string_add_sum u _ _ (by omega)
  have a3 : ∀ u : World, (Op.stringOp .add (t.extract 0 (8 * p) ++ A) R).run Tryd.prog u = .ok (.string (t.extract 0 (8 * p) ++ A ++ R)) u := fun u => run_string_add_sum u _ _ (by rw [ByteArray.size_append]; omega)
  have a4 : ∀ u : World, (Op.stringOp .add (t.extract 0 (8 * p) ++ B) R).run Tryd.prog u = .ok (.string (t.extract 0 (8 * p) ++ B ++ R)) u := fun u => run_string_add_sum u _ _ (by rw [ByteArray.size_append]; omega)
  rw [cat] at SA SB
  clear cat zr
  generalize Dg.sumL ((t.extract 0 (8 * p)).data.toList ++ A.data.toList ++ R.data.toList) = da at *
  generalize Dg.sumL ((t.extract 0 (8 * p)).data.toList ++ B.data.toList ++ R.data.toList) = db at *
  have o0 : OldOf w1 w1.drew := (OldOf.refl _).drew
  rcases Classical.em (A = B) with hAB | hAB
  · have hdd : da = db := BI.out.2 (by rw [hAB])
    subst hAB hdd
    go_region_held3 (fun w' => OldOf w1 w') (first | assumption | exact o2) ((go_at_call 10; (with_reducible refine (SA.out _).mono ?_); rintro e w2 ⟨rfl, hb2⟩; have o2 := OldOf.below (by assumption) hb2))
    go_wp2
    go_ret
    exact ⟨rfl, B1.out.trans (Below.mono o2 B1.out.size)⟩
  · have n1 : ¬ da = db := fun e => hAB (ByteArray.ext (Array.ext' (BI.out.1 e)))
    have n2 : (da == db) = false := by simpa using n1
    have e1 := str_eq_f hAB
    go_region_held3 (fun w' => OldOf w1 w') (first | assumption | exact o2) ((go_at_call 10; (first | (with_reducible refine (SA.out _).mono ?_) | (with_reducible refine (SB.out _).mono ?_)); rintro e w2 ⟨rfl, hb2⟩; have o2 := OldOf.below (by assumption) hb2))
    go_wp2
    go_ret
    exact ⟨rfl, B1.out.trans (Below.mono o2 B1.out.size)⟩
end Go.Proofs.YtfgodkhgcmgckaaDoor
