/- WALK: SequenceLongest. -/
import Derived.Test.YtkklpmfjbkapiaaV1b
namespace Go.Proofs.Ytkklpmfjbkapiaa
open Go.RowKit

set_option maxRecDepth 100000 in
set_option maxHeartbeats 3200000 in
theorem walk_SequenceLongest_ (hm : MatchSaid) (hh : HeadSaid)  (Aa : Option Addr) (na ca : Nat) (a : List ByteArray) (Ab : Option Addr) (nb cb : Nat) (b : List ByteArray) (bits : Int) (w : World) (sa : Sl w Aa na ca a) (sb : Sl w Ab nb cb b) (_ : (Lit.int .u32 bits).wf = true) :
    Calls Try.prog 5 #[.slice Aa na ca, .slice Ab nb cb, .int .u32 bits] w fun e w' => e = .returned (.bool true) ∧ Below w.heap.size w w' := by
  have HM := Lib.hid hm; clear hm; have HH := Lib.hid hh; clear hh
  have Sa := Lib.hid sa; clear sa
  have Sb := Lib.hid sb; clear sb
  have B0 : Hid (Below w.heap.size w w) := Below.refl _ _
  go_enter Try.func5, Try.ntmps5
  go_wp2_with fail
  refine (HH.out _).mono ?_
  rintro e w1 ⟨rfl, hb1⟩
  have b1 := Lib.hid hb1; have B1 : Hid (Below w.heap.size w w1) := below_chain B0.out hb1 B0.out.size; clear hb1
  go_wp2_with fail
  refine (few_sl Aa _ _ a _ ((Sa.out).below b1.out)).mono ?_
  rintro e w' ⟨hF, rfl⟩
  rcases hF.cases_ with ⟨rfl, hfa⟩ | rfl <;> clear hF
  rotate_left
  · go_wp2; go_ret; exact ⟨rfl, B1.out⟩
  go_wp2_with fail
  refine (few_sl Ab _ _ b _ ((Sb.out).below b1.out)).mono ?_
  rintro e w' ⟨hF, rfl⟩
  rcases hF.cases_ with ⟨rfl, hfb⟩ | rfl <;> clear hF
  rotate_left
  · go_wp2; go_ret; exact ⟨rfl, B1.out⟩
  go_wp2_with fail
  refine (common_sl HM.out Aa Ab _ _ _ _ _ _ _ ((Sa.out).below b1.out) ((Sb.out).below b1.out) (by omega) (by omega)).mono ?_
  rintro e w2 ⟨Ax1, nx1, cx1, rfl, sx1, hb2⟩
  have Sx1 := Lib.hid sx1; clear sx1
  have b2 := Lib.hid hb2; have B2 : Hid (Below w.heap.size w w2) := below_chain B1.out hb2 B1.out.size; clear hb2
  go_wp2_with fail
  refine (picked_sl Aa _ _ a bits _ (((Sa.out).below b1.out).below b2.out) (by omega)).mono ?_
  rintro e w3 ⟨Ax2, nx2, cx2, ox2, rfl, hsub, sx2, hb3⟩
  have Sx2 := Lib.hid sx2; have HSub := Lib.hid hsub; clear sx2 hsub
  have b3 := Lib.hid hb3; have B3 : Hid (Below w.heap.size w w3) := below_chain B2.out hb3 B2.out.size; clear hb3
  go_wp2_with fail
  refine (within_sl true Ax1 Aa _ _ _ _ _ _ _ ((Sx1.out).below b3.out) ((((Sa.out).below b1.out).below b2.out).below b3.out) ((withinF_iff _ _).2 (Sq.com_sub_left a b))).mono ?_
  intro e w4 hS; obtain ⟨rfl, hd⟩ := hS; have hb4 : Below w3.heap.size w3 w4 := hd.below _; clear hd
  have b4 := Lib.hid hb4; have B4 : Hid (Below w.heap.size w w4) := below_chain B3.out hb4 B3.out.size; clear hb4
  go_wp2_with fail
  refine (within_sl true Ax1 Ab _ _ _ _ _ _ _ (((Sx1.out).below b3.out).below b4.out) (((((Sb.out).below b1.out).below b2.out).below b3.out).below b4.out) ((withinF_iff _ _).2 (Sq.com_sub_right a b))).mono ?_
  intro e w5 hS; obtain ⟨rfl, hd⟩ := hS; have hb5 : Below w4.heap.size w4 w5 := hd.below _; clear hd
  have b5 := Lib.hid hb5; have B5 : Hid (Below w.heap.size w w5) := below_chain B4.out hb5 B4.out.size; clear hb5
  have hle : withinF ox2 b = true → nx2 ≤ nx1 := fun hw => by
    have h1 := Sq.lcs_best a b ox2 HSub.out ((withinF_iff _ _).1 hw); have h2 := Sq.com_len a b; have h3 := Sx2.out.1; have h4 := Sx1.out.1; omega
  have HL1 : Hid (nx1 = Sq.lcs a b) := Lib.hid (by rw [Sx1.out.1, Sq.com_len])
  rcases hwb : withinF ox2 b with _ | _
  · have HW := Lib.hid hwb; clear hwb hle
    go_wp2_with fail
    refine (within_sl false Ax2 Ab _ _ _ _ _ _ _ (((Sx2.out).below b4.out).below b5.out) ((((((Sb.out).below b1.out).below b2.out).below b3.out).below b4.out).below b5.out) HW.out).mono ?_
    intro e w6 hS; obtain ⟨rfl, hd⟩ := hS; have hb6 : Below w5.heap.size w5 w6 := hd.below _; clear hd
    have b6 := Lib.hid hb6; have B6 : Hid (Below w.heap.size w w6) := below_chain B5.out hb6 B5.out.size; clear hb6
    go_wp2_with fail
    refine (common_sl HM.out Ab Aa _ _ _ _ _ _ _ (((((((Sb.out).below b1.out).below b2.out).below b3.out).below b4.out).below b5.out).below b6.out) (((((((Sa.out).below b1.out).below b2.out).below b3.out).below b4.out).below b5.out).below b6.out) (by omega) (by omega)).mono ?_
    rintro e w7 ⟨Ax3, nx3, cx3, rfl, sx3, hb7⟩
    have Sx3 := Lib.hid sx3; clear sx3
    have b7 := Lib.hid hb7; have B7 : Hid (Below w.heap.size w w7) := below_chain B6.out hb7 B6.out.size; clear hb7
    have hlen : nx3 = nx1 := by rw [Sx3.out.1, HL1.out, Sq.com_len, Sq.lcs_comm]
    subst hlen
    go_wp2_with fail
    refine (common_sl HM.out Aa Aa _ _ _ _ _ _ _ ((((((((Sa.out).below b1.out).below b2.out).below b3.out).below b4.out).below b5.out).below b6.out).below b7.out) ((((((((Sa.out).below b1.out).below b2.out).below b3.out).below b4.out).below b5.out).below b6.out).below b7.out) (by omega) (by omega)).mono ?_
    rw [Sq.com_self]
    rintro e w8 ⟨Ax4, nx4, cx4, rfl, sx4, hb8⟩
    have Sx4 := Lib.hid sx4; clear sx4
    have b8 := Lib.hid hb8; have B8 : Hid (Below w.heap.size w w8) := below_chain B7.out hb8 B7.out.size; clear hb8
    go_wp2_with fail
    refine (same_sl true Ax4 Aa _ _ _ _ _ _ _ (Sx4.out) (((((((((Sa.out).below b1.out).below b2.out).below b3.out).below b4.out).below b5.out).below b6.out).below b7.out).below b8.out) (same_refl _)).mono ?_
    intro e w9 hS; obtain ⟨rfl, hd⟩ := hS; have hb9 : Below w8.heap.size w8 w9 := hd.below _; clear hd
    have b9 := Lib.hid hb9; have B9 : Hid (Below w.heap.size w w9) := below_chain B8.out hb9 B8.out.size; clear hb9
    go_wp2
    go_ret
    exact ⟨rfl, B9.out⟩
  · have hle2 := hle hwb; have HW := Lib.hid hwb; clear hwb hle
    go_wp2_with fail
    refine (within_sl true Ax2 Ab _ _ _ _ _ _ _ (((Sx2.out).below b4.out).below b5.out) ((((((Sb.out).below b1.out).below b2.out).below b3.out).below b4.out).below b5.out) HW.out).mono ?_
    intro e w6 hS; obtain ⟨rfl, hd⟩ := hS; have hb6 : Below w5.heap.size w5 w6 := hd.below _; clear hd
    have b6 := Lib.hid hb6; have B6 : Hid (Below w.heap.size w w6) := below_chain B5.out hb6 B5.out.size; clear hb6
    go_wp2_with fail
    refine (common_sl HM.out Ab Aa _ _ _ _ _ _ _ (((((((Sb.out).below b1.out).below b2.out).below b3.out).below b4.out).below b5.out).below b6.out) (((((((Sa.out).below b1.out).below b2.out).below b3.out).below b4.out).below b5.out).below b6.out) (by omega) (by omega)).mono ?_
    rintro e w7 ⟨Ax3, nx3, cx3, rfl, sx3, hb7⟩
    have Sx3 := Lib.hid sx3; clear sx3
    have b7 := Lib.hid hb7; have B7 : Hid (Below w.heap.size w w7) := below_chain B6.out hb7 B6.out.size; clear hb7
    have hlen : nx3 = nx1 := by rw [Sx3.out.1, HL1.out, Sq.com_len, Sq.lcs_comm]
    subst hlen
    go_wp2_with fail
    refine (common_sl HM.out Aa Aa _ _ _ _ _ _ _ ((((((((Sa.out).below b1.out).below b2.out).below b3.out).below b4.out).below b5.out).below b6.out).below b7.out) ((((((((Sa.out).below b1.out).below b2.out).below b3.out).below b4.out).below b5.out).below b6.out).below b7.out) (by omega) (by omega)).mono ?_
    rw [Sq.com_self]
    rintro e w8 ⟨Ax4, nx4, cx4, rfl, sx4, hb8⟩
    have Sx4 := Lib.hid sx4; clear sx4
    have b8 := Lib.hid hb8; have B8 : Hid (Below w.heap.size w w8) := below_chain B7.out hb8 B7.out.size; clear hb8
    go_wp2_with fail
    refine (same_sl true Ax4 Aa _ _ _ _ _ _ _ (Sx4.out) (((((((((Sa.out).below b1.out).below b2.out).below b3.out).below b4.out).below b5.out).below b6.out).below b7.out).below b8.out) (same_refl _)).mono ?_
    intro e w9 hS; obtain ⟨rfl, hd⟩ := hS; have hb9 : Below w8.heap.size w8 w9 := hd.below _; clear hd
    have b9 := Lib.hid hb9; have B9 : Hid (Below w.heap.size w w9) := below_chain B8.out hb9 B8.out.size; clear hb9
    go_wp2
    go_ret
    exact ⟨rfl, B9.out⟩
end Go.Proofs.Ytkklpmfjbkapiaa
