/- WALK: the law's examples: head() is true. -/
import Derived.Test.YtkklpmfjbkapiaaV1b
namespace Go.Proofs.Ytkklpmfjbkapiaa
open Go.RowKit


set_option maxRecDepth 100000 in
set_option maxHeartbeats 3200000 in
theorem head_any (hm : MatchSaid) (w : World) : Calls Try.prog 9 #[] w fun e w' => e = .returned (.bool true) ∧ Below w.heap.size w w' := by
  have HM := Lib.hid hm; clear hm
  have B0 : Hid (Below w.heap.size w w) := Below.refl _ _
  go_enter Try.func9, Try.ntmps9
  go_wp2_with fail
  refine (letters_sl [97, 98, 99] _ (by decide)).mono ?_
  rintro e w1 ⟨Ax1, nx1, cx1, rfl, sx1, hb1⟩
  have Sx1 := Lib.hid sx1; have b1 := Lib.hid hb1; have B1 : Hid (Below w.heap.size w w1) := below_chain B0.out hb1 B0.out.size; clear sx1 hb1
  go_wp2_with fail
  refine (letters_sl [97, 120, 98, 99] _ (by decide)).mono ?_
  rintro e w2 ⟨Ax2, nx2, cx2, rfl, sx2, hb2⟩
  have Sx2 := Lib.hid sx2; have b2 := Lib.hid hb2; have B2 : Hid (Below w.heap.size w w2) := below_chain B1.out hb2 B1.out.size; clear sx2 hb2
  go_wp2_with fail
  refine (letters_sl [97, 98, 99, 121] _ (by decide)).mono ?_
  rintro e w3 ⟨Ax3, nx3, cx3, rfl, sx3, hb3⟩
  have Sx3 := Lib.hid sx3; have b3 := Lib.hid hb3; have B3 : Hid (Below w.heap.size w w3) := below_chain B2.out hb3 B2.out.size; clear sx3 hb3
  go_wp2_with fail
  refine (merge_sl HM.out Ax1 Ax2 Ax3 _ _ _ _ _ _ _ _ _ _ (((Sx1.out).below b2.out).below b3.out) ((Sx2.out).below b3.out) (Sx3.out) (by decide) (by decide) (by decide)).mono ?_
  intro e w4 hM; obtain ⟨Ax4, nx4, cx4, rfl, sx4, hb4⟩ := hM.some_ ex1; clear hM
  have Sx4 := Lib.hid sx4; have b4 := Lib.hid hb4; have B4 : Hid (Below w.heap.size w w4) := below_chain B3.out hb4 B3.out.size; clear sx4 hb4
  go_wp2_with fail
  refine (letters_sl [97, 98, 99] _ (by decide)).mono ?_
  rintro e w5 ⟨Ax5, nx5, cx5, rfl, sx5, hb5⟩
  have Sx5 := Lib.hid sx5; have b5 := Lib.hid hb5; have B5 : Hid (Below w.heap.size w w5) := below_chain B4.out hb5 B4.out.size; clear sx5 hb5
  go_wp2_with fail
  refine (letters_sl [97, 98] _ (by decide)).mono ?_
  rintro e w6 ⟨Ax6, nx6, cx6, rfl, sx6, hb6⟩
  have Sx6 := Lib.hid sx6; have b6 := Lib.hid hb6; have B6 : Hid (Below w.heap.size w w6) := below_chain B5.out hb6 B5.out.size; clear sx6 hb6
  go_wp2_with fail
  refine (letters_sl [97, 98, 99, 100] _ (by decide)).mono ?_
  rintro e w7 ⟨Ax7, nx7, cx7, rfl, sx7, hb7⟩
  have Sx7 := Lib.hid sx7; have b7 := Lib.hid hb7; have B7 : Hid (Below w.heap.size w w7) := below_chain B6.out hb7 B6.out.size; clear sx7 hb7
  go_wp2_with fail
  refine (merge_sl HM.out Ax5 Ax6 Ax7 _ _ _ _ _ _ _ _ _ _ (((Sx5.out).below b6.out).below b7.out) ((Sx6.out).below b7.out) (Sx7.out) (by decide) (by decide) (by decide)).mono ?_
  intro e w8 hM; obtain ⟨rfl, hb8⟩ := hM.none_ ex2; clear hM
  have b8 := Lib.hid hb8; have B8 : Hid (Below w.heap.size w w8) := below_chain B7.out hb8 B7.out.size; clear hb8
  go_wp2_with fail
  refine (letters_sl [97, 98, 99] _ (by decide)).mono ?_
  rintro e w9 ⟨Ax8, nx8, cx8, rfl, sx8, hb9⟩
  have Sx8 := Lib.hid sx8; have b9 := Lib.hid hb9; have B9 : Hid (Below w.heap.size w w9) := below_chain B8.out hb9 B8.out.size; clear sx8 hb9
  go_wp2_with fail
  refine (letters_sl [97, 99] _ (by decide)).mono ?_
  rintro e w10 ⟨Ax9, nx9, cx9, rfl, sx9, hb10⟩
  have Sx9 := Lib.hid sx9; have b10 := Lib.hid hb10; have B10 : Hid (Below w.heap.size w w10) := below_chain B9.out hb10 B9.out.size; clear sx9 hb10
  go_wp2_with fail
  refine (letters_sl [97, 99] _ (by decide)).mono ?_
  rintro e w11 ⟨Ax10, nx10, cx10, rfl, sx10, hb11⟩
  have Sx10 := Lib.hid sx10; have b11 := Lib.hid hb11; have B11 : Hid (Below w.heap.size w w11) := below_chain B10.out hb11 B10.out.size; clear sx10 hb11
  go_wp2_with fail
  refine (merge_sl HM.out Ax8 Ax9 Ax10 _ _ _ _ _ _ _ _ _ _ (((Sx8.out).below b10.out).below b11.out) ((Sx9.out).below b11.out) (Sx10.out) (by decide) (by decide) (by decide)).mono ?_
  intro e w12 hM; obtain ⟨Ax11, nx11, cx11, rfl, sx11, hb12⟩ := hM.some_ ex3; clear hM
  have Sx11 := Lib.hid sx11; have b12 := Lib.hid hb12; have B12 : Hid (Below w.heap.size w w12) := below_chain B11.out hb12 B11.out.size; clear sx11 hb12
  go_wp2_with fail
  refine (letters_sl [97, 98] _ (by decide)).mono ?_
  rintro e w13 ⟨Ax12, nx12, cx12, rfl, sx12, hb13⟩
  have Sx12 := Lib.hid sx12; have b13 := Lib.hid hb13; have B13 : Hid (Below w.heap.size w w13) := below_chain B12.out hb13 B12.out.size; clear sx12 hb13
  go_wp2_with fail
  refine (letters_sl [98, 97] _ (by decide)).mono ?_
  rintro e w14 ⟨Ax13, nx13, cx13, rfl, sx13, hb14⟩
  have Sx13 := Lib.hid sx13; have b14 := Lib.hid hb14; have B14 : Hid (Below w.heap.size w w14) := below_chain B13.out hb14 B13.out.size; clear sx13 hb14
  go_wp2_with fail
  refine (letters_sl [97, 98] _ (by decide)).mono ?_
  rintro e w15 ⟨Ax14, nx14, cx14, rfl, sx14, hb15⟩
  have Sx14 := Lib.hid sx14; have b15 := Lib.hid hb15; have B15 : Hid (Below w.heap.size w w15) := below_chain B14.out hb15 B14.out.size; clear sx14 hb15
  go_wp2_with fail
  refine (merge_sl HM.out Ax12 Ax13 Ax14 _ _ _ _ _ _ _ _ _ _ (((Sx12.out).below b14.out).below b15.out) ((Sx13.out).below b15.out) (Sx14.out) (by decide) (by decide) (by decide)).mono ?_
  intro e w16 hM; obtain ⟨Ax15, nx15, cx15, rfl, sx15, hb16⟩ := hM.some_ ex4; clear hM
  have Sx15 := Lib.hid sx15; have b16 := Lib.hid hb16; have B16 : Hid (Below w.heap.size w w16) := below_chain B15.out hb16 B15.out.size; clear sx15 hb16
  go_wp2_with fail
  refine (letters_sl [97, 120, 98, 99, 121] _ (by decide)).mono ?_
  rintro e w17 ⟨Ax16, nx16, cx16, rfl, sx16, hb17⟩
  have Sx16 := Lib.hid sx16; have b17 := Lib.hid hb17; have B17 : Hid (Below w.heap.size w w17) := below_chain B16.out hb17 B16.out.size; clear sx16 hb17
  go_wp2_with fail
  refine (same_sl true Ax4 Ax16 _ _ _ _ _ _ _ ((((((((((((((Sx4.out).below b5.out).below b6.out).below b7.out).below b8.out).below b9.out).below b10.out).below b11.out).below b12.out).below b13.out).below b14.out).below b15.out).below b16.out).below b17.out) (Sx16.out) (by decide +kernel)).mono ?_
  intro e w18 hS; obtain ⟨rfl, hd⟩ := hS; have b18 : Hid (Below w17.heap.size w17 w18) := hd.below _; have B18 : Hid (Below w.heap.size w w18) := below_chain B17.out b18.out B17.out.size; clear hd
  go_wp2_with fail
  refine (letters_sl [97, 99] _ (by decide)).mono ?_
  rintro e w19 ⟨Ax17, nx17, cx17, rfl, sx17, hb19⟩
  have Sx17 := Lib.hid sx17; have b19 := Lib.hid hb19; have B19 : Hid (Below w.heap.size w w19) := below_chain B18.out hb19 B18.out.size; clear sx17 hb19
  go_wp2_with fail
  refine (same_sl true Ax11 Ax17 _ _ _ _ _ _ _ ((((((((Sx11.out).below b13.out).below b14.out).below b15.out).below b16.out).below b17.out).below b18.out).below b19.out) (Sx17.out) (by decide +kernel)).mono ?_
  intro e w20 hS; obtain ⟨rfl, hd⟩ := hS; have b20 : Hid (Below w19.heap.size w19 w20) := hd.below _; have B20 : Hid (Below w.heap.size w w20) := below_chain B19.out b20.out B19.out.size; clear hd
  go_wp2_with fail
  refine (letters_sl [98, 97] _ (by decide)).mono ?_
  rintro e w21 ⟨Ax18, nx18, cx18, rfl, sx18, hb21⟩
  have Sx18 := Lib.hid sx18; have b21 := Lib.hid hb21; have B21 : Hid (Below w.heap.size w w21) := below_chain B20.out hb21 B20.out.size; clear sx18 hb21
  go_wp2_with fail
  refine (same_sl true Ax15 Ax18 _ _ _ _ _ _ _ ((((((Sx15.out).below b17.out).below b18.out).below b19.out).below b20.out).below b21.out) (Sx18.out) (by decide +kernel)).mono ?_
  intro e w22 hS; obtain ⟨rfl, hd⟩ := hS; have b22 : Hid (Below w21.heap.size w21 w22) := hd.below _; have B22 : Hid (Below w.heap.size w w22) := below_chain B21.out b22.out B21.out.size; clear hd
  go_wp2_with fail
  refine (letters_sl [97, 98, 99, 97, 98] _ (by decide)).mono ?_
  rintro e w23 ⟨Ax19, nx19, cx19, rfl, sx19, hb23⟩
  have Sx19 := Lib.hid sx19; have b23 := Lib.hid hb23; have B23 : Hid (Below w.heap.size w w23) := below_chain B22.out hb23 B22.out.size; clear sx19 hb23
  go_wp2_with fail
  refine (letters_sl [98, 97, 98] _ (by decide)).mono ?_
  rintro e w24 ⟨Ax20, nx20, cx20, rfl, sx20, hb24⟩
  have Sx20 := Lib.hid sx20; have b24 := Lib.hid hb24; have B24 : Hid (Below w.heap.size w w24) := below_chain B23.out hb24 B23.out.size; clear sx20 hb24
  go_wp2_with fail
  refine (common_sl HM.out Ax19 Ax20 _ _ _ _ _ _ _ ((Sx19.out).below b24.out) (Sx20.out) (by decide) (by decide)).mono ?_
  rw [ex5]
  rintro e w25 ⟨Ax21, nx21, cx21, rfl, sx21, hb25⟩
  have Sx21 := Lib.hid sx21; have b25 := Lib.hid hb25; have B25 : Hid (Below w.heap.size w w25) := below_chain B24.out hb25 B24.out.size; clear sx21 hb25
  go_wp2_with fail
  refine (letters_sl [98, 97, 98] _ (by decide)).mono ?_
  rintro e w26 ⟨Ax22, nx22, cx22, rfl, sx22, hb26⟩
  have Sx22 := Lib.hid sx22; have b26 := Lib.hid hb26; have B26 : Hid (Below w.heap.size w w26) := below_chain B25.out hb26 B25.out.size; clear sx22 hb26
  go_wp2_with fail
  refine (same_sl true Ax21 Ax22 _ _ _ _ _ _ _ ((Sx21.out).below b26.out) (Sx22.out) (by decide +kernel)).mono ?_
  intro e w27 hS; obtain ⟨rfl, hd⟩ := hS; have b27 : Hid (Below w26.heap.size w26 w27) := hd.below _; have B27 : Hid (Below w.heap.size w w27) := below_chain B26.out b27.out B26.out.size; clear hd
  go_wp2
  go_ret
  exact ⟨rfl, B27.out⟩
end Go.Proofs.Ytkklpmfjbkapiaa
