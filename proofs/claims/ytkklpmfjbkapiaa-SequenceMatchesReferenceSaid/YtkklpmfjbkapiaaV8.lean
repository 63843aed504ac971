/- WALK: SequenceMatchesReference. -/
import Derived.Test.YtkklpmfjbkapiaaR4
namespace Go.Proofs.Ytkklpmfjbkapiaa
open Go.RowKit

set_option maxRecDepth 100000 in
set_option maxHeartbeats 3200000 in
theorem walk_SequenceMatchesReference_ (hm : MatchSaid) (hh : HeadSaid)  (Ab : Option Addr) (nb cb : Nat) (b : List ByteArray) (Ao : Option Addr) (no co : Nat) (o : List ByteArray) (At : Option Addr) (nt ct : Nat) (t : List ByteArray)  (w : World) (sb : Sl w Ab nb cb b) (so : Sl w Ao no co o) (st : Sl w At nt ct t) :
    Calls Try.prog 3 #[.slice Ab nb cb, .slice Ao no co, .slice At nt ct] w fun e w' => e = .returned (.bool true) ∧ Below w.heap.size w w' := by
  have HM := Lib.hid hm; clear hm; have HH := Lib.hid hh; clear hh
  have Sb := Lib.hid sb; clear sb
  have So := Lib.hid so; clear so
  have St := Lib.hid st; clear st
  have B0 : Hid (Below w.heap.size w w) := Below.refl _ _
  go_enter Try.func3, Try.ntmps3
  go_wp2_with fail
  refine (HH.out _).mono ?_
  rintro e w1 ⟨rfl, hb1⟩
  have b1 := Lib.hid hb1; have B1 : Hid (Below w.heap.size w w1) := below_chain B0.out hb1 B0.out.size; clear hb1
  go_wp2_with fail
  refine (few_sl Ab _ _ b _ ((Sb.out).below b1.out)).mono ?_
  rintro e w' ⟨hF, rfl⟩
  rcases hF.cases_ with ⟨rfl, hfb⟩ | rfl <;> clear hF
  rotate_left
  · go_wp2; go_ret; exact ⟨rfl, B1.out⟩
  go_wp2_with fail
  refine (few_sl Ao _ _ o _ ((So.out).below b1.out)).mono ?_
  rintro e w' ⟨hF, rfl⟩
  rcases hF.cases_ with ⟨rfl, hfo⟩ | rfl <;> clear hF
  rotate_left
  · go_wp2; go_ret; exact ⟨rfl, B1.out⟩
  go_wp2_with fail
  refine (few_sl At _ _ t _ ((St.out).below b1.out)).mono ?_
  rintro e w' ⟨hF, rfl⟩
  rcases hF.cases_ with ⟨rfl, hft⟩ | rfl <;> clear hF
  rotate_left
  · go_wp2; go_ret; exact ⟨rfl, B1.out⟩
  rcases hq : Sq.mrg b o t with _ | l
  · have HQ := Lib.hid hq; clear hq
    go_wp2_with fail
    refine (merge_sl HM.out Ab Ao At _ _ _ _ _ _ _ _ _ _ ((Sb.out).below b1.out) ((So.out).below b1.out) ((St.out).below b1.out) (by omega) (by omega) (by omega)).mono ?_
    intro e w2 hM; obtain ⟨rfl, hb2⟩ := hM.none_ HQ.out; clear hM
    have b2 := Lib.hid hb2; have B2 : Hid (Below w.heap.size w w2) := below_chain B1.out hb2 B1.out.size; clear hb2
    go_wp2_with fail
    refine (rmerge_sl Ab Ao At _ _ _ _ _ _ _ _ _ _ (((Sb.out).below b1.out).below b2.out) (((So.out).below b1.out).below b2.out) (((St.out).below b1.out).below b2.out) (by omega) (by omega) (by omega)).mono ?_
    intro e w3 hM; obtain ⟨rfl, hb3⟩ := hM.none_ HQ.out; clear hM
    have b3 := Lib.hid hb3; have B3 : Hid (Below w.heap.size w w3) := below_chain B2.out hb3 B2.out.size; clear hb3
    go_wp2_with fail
    refine (same_sl true none none _ _ _ _ _ _ _ (sl_nil _) (sl_nil _) (same_refl _)).mono ?_
    intro e w4 hS; obtain ⟨rfl, hd⟩ := hS; have hb4 : Below w3.heap.size w3 w4 := hd.below _; clear hd
    have b4 := Lib.hid hb4; have B4 : Hid (Below w.heap.size w w4) := below_chain B3.out hb4 B3.out.size; clear hb4
    go_wp2_with fail
    refine (common_sl HM.out Ab Ao _ _ _ _ _ _ _ (((((Sb.out).below b1.out).below b2.out).below b3.out).below b4.out) (((((So.out).below b1.out).below b2.out).below b3.out).below b4.out) (by omega) (by omega)).mono ?_
    rintro e w5 ⟨Ax1, nx1, cx1, rfl, sx1, hb5⟩
    have Sx1 := Lib.hid sx1; clear sx1
    have b5 := Lib.hid hb5; have B5 : Hid (Below w.heap.size w w5) := below_chain B4.out hb5 B4.out.size; clear hb5
    go_wp2_with fail
    refine (rcommon_sl Ab Ao _ _ _ _ _ _ _ ((((((Sb.out).below b1.out).below b2.out).below b3.out).below b4.out).below b5.out) ((((((So.out).below b1.out).below b2.out).below b3.out).below b4.out).below b5.out) (by omega) (by omega)).mono ?_
    rintro e w6 ⟨Ax2, nx2, cx2, rfl, sx2, hb6⟩
    have Sx2 := Lib.hid sx2; clear sx2
    have b6 := Lib.hid hb6; have B6 : Hid (Below w.heap.size w w6) := below_chain B5.out hb6 B5.out.size; clear hb6
    go_wp2_with fail
    refine (same_sl true Ax1 Ax2 _ _ _ _ _ _ _ ((Sx1.out).below b6.out) (Sx2.out) (same_refl _)).mono ?_
    intro e w7 hS; obtain ⟨rfl, hd⟩ := hS; have hb7 : Below w6.heap.size w6 w7 := hd.below _; clear hd
    have b7 := Lib.hid hb7; have B7 : Hid (Below w.heap.size w w7) := below_chain B6.out hb7 B6.out.size; clear hb7
    go_wp2
    go_ret
    exact ⟨rfl, B7.out⟩
  · have HQ := Lib.hid hq; clear hq
    go_wp2_with fail
    refine (merge_sl HM.out Ab Ao At _ _ _ _ _ _ _ _ _ _ ((Sb.out).below b1.out) ((So.out).below b1.out) ((St.out).below b1.out) (by omega) (by omega) (by omega)).mono ?_
    intro e w2 hM; obtain ⟨Ax1, nx1, cx1, rfl, sx1, hb2⟩ := hM.some_ HQ.out; clear hM
    have Sx1 := Lib.hid sx1; clear sx1
    have b2 := Lib.hid hb2; have B2 : Hid (Below w.heap.size w w2) := below_chain B1.out hb2 B1.out.size; clear hb2
    go_wp2_with fail
    refine (rmerge_sl Ab Ao At _ _ _ _ _ _ _ _ _ _ (((Sb.out).below b1.out).below b2.out) (((So.out).below b1.out).below b2.out) (((St.out).below b1.out).below b2.out) (by omega) (by omega) (by omega)).mono ?_
    intro e w3 hM; obtain ⟨Ax2, nx2, cx2, rfl, sx2, hb3⟩ := hM.some_ HQ.out; clear hM
    have Sx2 := Lib.hid sx2; clear sx2
    have b3 := Lib.hid hb3; have B3 : Hid (Below w.heap.size w w3) := below_chain B2.out hb3 B2.out.size; clear hb3
    go_wp2_with fail
    refine (same_sl true Ax1 Ax2 _ _ _ _ _ _ _ ((Sx1.out).below b3.out) (Sx2.out) (same_refl _)).mono ?_
    intro e w4 hS; obtain ⟨rfl, hd⟩ := hS; have hb4 : Below w3.heap.size w3 w4 := hd.below _; clear hd
    have b4 := Lib.hid hb4; have B4 : Hid (Below w.heap.size w w4) := below_chain B3.out hb4 B3.out.size; clear hb4
    go_wp2_with fail
    refine (common_sl HM.out Ab Ao _ _ _ _ _ _ _ (((((Sb.out).below b1.out).below b2.out).below b3.out).below b4.out) (((((So.out).below b1.out).below b2.out).below b3.out).below b4.out) (by omega) (by omega)).mono ?_
    rintro e w5 ⟨Ax3, nx3, cx3, rfl, sx3, hb5⟩
    have Sx3 := Lib.hid sx3; clear sx3
    have b5 := Lib.hid hb5; have B5 : Hid (Below w.heap.size w w5) := below_chain B4.out hb5 B4.out.size; clear hb5
    go_wp2_with fail
    refine (rcommon_sl Ab Ao _ _ _ _ _ _ _ ((((((Sb.out).below b1.out).below b2.out).below b3.out).below b4.out).below b5.out) ((((((So.out).below b1.out).below b2.out).below b3.out).below b4.out).below b5.out) (by omega) (by omega)).mono ?_
    rintro e w6 ⟨Ax4, nx4, cx4, rfl, sx4, hb6⟩
    have Sx4 := Lib.hid sx4; clear sx4
    have b6 := Lib.hid hb6; have B6 : Hid (Below w.heap.size w w6) := below_chain B5.out hb6 B5.out.size; clear hb6
    go_wp2_with fail
    refine (same_sl true Ax3 Ax4 _ _ _ _ _ _ _ ((Sx3.out).below b6.out) (Sx4.out) (same_refl _)).mono ?_
    intro e w7 hS; obtain ⟨rfl, hd⟩ := hS; have hb7 : Below w6.heap.size w6 w7 := hd.below _; clear hd
    have b7 := Lib.hid hb7; have B7 : Hid (Below w.heap.size w w7) := below_chain B6.out hb7 B6.out.size; clear hb7
    go_wp2
    go_ret
    exact ⟨rfl, B7.out⟩
end Go.Proofs.Ytkklpmfjbkapiaa
