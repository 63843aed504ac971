/- WALK: DigestShort. -/
import Derived.Test.YtfgodkhgcmgckaaDoorQ8
set_option linter.unusedSimpArgs false
set_option linter.unusedVariables false
namespace Go.Proofs.YtfgodkhgcmgckaaDoor
open Go.RowKit

set_option maxHeartbeats 2000000 in
set_option maxRecDepth 100000 in
theorem walk_DigestShort (a b : ByteArray) (w : World) (ha : a.size ≤ 9223372036854775807) (hb : b.size ≤ 9223372036854775807) (ht : Tab w) :
    Calls Tryd.prog 5 #[.string a, .string b] w fun e w' => e = .returned (.bool true) ∧ Below w.heap.size w w' := by
  have HD := Lib.hid (head_any w ht); clear ht
  go_enter Tryd.func5, Tryd.ntmps5
  go_wp2_with fail
  refine HD.out.mono ?_
  rintro e w1 ⟨rfl, hb1⟩
  have B1 := Lib.hid hb1; clear hb1
  go_wp2_with fail
  have za : (a.extract 0 (min (↑a.size : Int) 7).toNat).size ≤ 7 := by rw [ByteArray.size_extract]; omega
  have zb : (b.extract 0 (min (↑b.size : Int) 7).toNat).size ≤ 7 := by rw [ByteArray.size_extract]; omega
  generalize a.extract 0 (min (↑a.size : Int) 7).toNat = x at *
  generalize b.extract 0 (min (↑b.size : Int) 7).toNat = y at *
  have SI := Lib.hid (Dg.short_iff (a := x.data.toList) (b := y.data.toList) (by rw [← Lib.size_eq]; exact za) (by rw [← Lib.size_eq]; exact zb))
  refine (sum_any x w1 (by omega)).mono ?_
  rintro e w2 ⟨rfl, hb2⟩
  have B2 := Lib.hid (B1.out.trans (hb2.mono B1.out.size)); clear hb2
  go_wp2_with fail
  refine (sum_any y w2 (by omega)).mono ?_
  rintro e w3 ⟨rfl, hb3⟩
  have B3 := Lib.hid (B2.out.trans (hb3.mono B2.out.size)); clear hb3
  by_cases hxy : x = y
  · subst hxy
    go_wp2_with fail

    go_ret
    exact ⟨rfl, B3.out⟩
  · have e1 := str_eq_f hxy
    have n1 : ¬ Dg.sumL x.data.toList = Dg.sumL y.data.toList := fun e => hxy (ByteArray.ext (Array.ext' (SI.out.1 e)))
    have n2 : (Dg.sumL x.data.toList == Dg.sumL y.data.toList) = false := by simpa using n1
    go_wp2_with fail

    go_ret
    exact ⟨rfl, B3.out⟩
end Go.Proofs.YtfgodkhgcmgckaaDoor
