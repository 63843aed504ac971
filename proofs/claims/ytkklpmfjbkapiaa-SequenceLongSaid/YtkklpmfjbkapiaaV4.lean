/- WALK: SequenceLong. -/
import Derived.Test.YtkklpmfjbkapiaaV1b
namespace Go.Proofs.Ytkklpmfjbkapiaa
open Go.RowKit

set_option maxRecDepth 100000 in
set_option maxHeartbeats 3200000 in
theorem walk_SequenceLong_ (hh : HeadSaid) (x : Int) (Al : Option Addr) (nl cl : Nat) (l : List ByteArray) (w : World) (hx : (Lit.int .u16 x).wf = true) (sl : Sl w Al nl cl l) :
    Calls Try.prog 4 #[.int .u16 x, .slice Al nl cl] w fun e w' => e = .returned (.bool true) ∧ Below w.heap.size w w' := by
  have HH := Lib.hid hh; clear hh; have Sl_ := Lib.hid sl; clear sl
  obtain ⟨hx0, hx1⟩ : 0 ≤ x ∧ x ≤ 65535 := by simpa [Lit.wf, IntKind.min, IntKind.max, IntKind.signed, IntKind.bits] using hx
  clear hx
  obtain ⟨n, hn⟩ : ∃ n : Nat, (n : Int) = 2001 + x % 3000 := ⟨(2001 + x % 3000).toNat, by omega⟩
  have hn1 : 2000 < n := by omega
  have hn2 : n ≤ 5000 := by omega
  have hmk : ∀ u : World, (Instr.makeSlice 22 (.int .i64 (2001 + x % 3000)) (.int .i64 (2001 + x % 3000))).run Try.prog u = .ok (.slice (some ⟨u.heap.size, 0, none⟩) n n) (u.alloc (.cells (madeCells #[Value.string ByteArray.empty] n) 9)) := by
    intro u; rw [← hn]; simpa [Value.cells] using mk_run Try.underlying22 info_str n (by omega) (by omega) u
  have Hn := Lib.hid hn; clear hn
  have B0 : Hid (Below w.heap.size w w) := Below.refl _ _
  go_enter Try.func4, Try.ntmps4
  go_wp2_with fail
  refine (HH.out _).mono ?_
  rintro e w1 ⟨rfl, hb1⟩
  have b1 := Lib.hid hb1; have B1 : Hid (Below w.heap.size w w1) := below_chain B0.out hb1 B0.out.size; clear hb1
  go_wp2_with fail
  refine (few_sl Al _ _ l _ ((Sl_.out).below b1.out)).mono ?_
  rintro e w' ⟨hF, rfl⟩
  rcases hF.cases_ with ⟨rfl, hfl⟩ | rfl <;> clear hF
  rotate_left
  · go_wp2; go_ret; exact ⟨rfl, B1.out⟩
  have hb2 : Below w1.heap.size w1 (w1.alloc (.cells (madeCells #[Value.string ByteArray.empty] n) 9)) := (Below.refl _ _).alloc (Nat.le_refl _) _
  have B2 : Hid (Below w.heap.size w (w1.alloc (.cells (madeCells #[Value.string ByteArray.empty] n) 9))) := below_chain B1.out hb2 B1.out.size; clear hb2
  go_wp2_with fail
  refine (merge_long _ _ _ _ _ _ _ _ _ _ (by omega)).mono ?_
  rintro e w3 ⟨rfl, hb3⟩
  have b3 := Lib.hid hb3; have B3 : Hid (Below w.heap.size w w3) := below_chain B2.out hb3 B2.out.size; clear hb3
  go_wp2_with fail
  refine (merge_long _ _ _ _ _ _ _ _ _ _ (by omega)).mono ?_
  rintro e w4 ⟨rfl, hb4⟩
  have b4 := Lib.hid hb4; have B4 : Hid (Below w.heap.size w w4) := below_chain B3.out hb4 B3.out.size; clear hb4
  go_wp2_with fail
  refine (merge_long _ _ _ _ _ _ _ _ _ _ (by omega)).mono ?_
  rintro e w5 ⟨rfl, hb5⟩
  have b5 := Lib.hid hb5; have B5 : Hid (Below w.heap.size w w5) := below_chain B4.out hb5 B4.out.size; clear hb5
  go_wp2_with fail
  refine (common_long _ _ _ _ _ _ _ (by omega)).mono ?_
  rintro e w6 ⟨rfl, hb6⟩
  have b6 := Lib.hid hb6; have B6 : Hid (Below w.heap.size w w6) := below_chain B5.out hb6 B5.out.size; clear hb6
  go_wp2_with fail
  refine (common_long _ _ _ _ _ _ _ (by omega)).mono ?_
  rintro e w7 ⟨rfl, hb7⟩
  have b7 := Lib.hid hb7; have B7 : Hid (Below w.heap.size w w7) := below_chain B6.out hb7 B6.out.size; clear hb7
  go_wp2
  go_ret
  exact ⟨rfl, B7.out⟩
end Go.Proofs.Ytkklpmfjbkapiaa
