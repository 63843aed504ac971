/- WALKS: the law's head. -/
import Derived.Test.YtfgodkhgcmgckaaDoorQ7
set_option linter.unusedSimpArgs false
set_option linter.unusedVariables false
namespace Go.Proofs.YtfgodkhgcmgckaaDoor
open Go.RowKit

def bs (l : List UInt8) : ByteArray := ⟨l.toArray⟩
theorem h_one : Dg.isD [48, 49, 50, 51, 52, 53, 54, 55, 56, 57, 97, 98, 99, 100, 101, 102] = true := by decide
theorem h_two : Dg.isD [48, 49, 50, 51, 52, 53, 54, 55, 56, 57, 97, 98, 99, 100, 101, 70] = false := by decide
theorem h_three : Dg.isD [] = false := by decide
theorem h_list : Dg.joined (bys [⟨#[97]⟩, ⟨#[98, 99]⟩]) = [49, 58, 97, 50, 58, 98, 99] := by
  simp [bys, Dg.joined, Dg.elem, Dg.dec_one]; decide

theorem s1 (u : World) : Calls Tryd.prog 10 #[.string ⟨#[49, 58, 97, 50, 58, 98, 99]⟩] u fun e w' => e = .returned (.string ⟨(Dg.sumL [49, 58, 97, 50, 58, 98, 99]).toArray⟩) ∧ Below u.heap.size u w' := sum_any ⟨#[49, 58, 97, 50, 58, 98, 99]⟩ u (by decide)
theorem s2 (u : World) : Calls Tryd.prog 10 #[.string ⟨#[]⟩] u fun e w' => e = .returned (.string ⟨(Dg.sumL []).toArray⟩) ∧ Below u.heap.size u w' := sum_any ⟨#[]⟩ u (by decide)
theorem s3 (u : World) : Calls Tryd.prog 10 #[.string ⟨#[0]⟩] u fun e w' => e = .returned (.string ⟨(Dg.sumL [0]).toArray⟩) ∧ Below u.heap.size u w' := sum_any ⟨#[0]⟩ u (by decide)
theorem s4 (u : World) : Calls Tryd.prog 10 #[.string ⟨#[1]⟩] u fun e w' => e = .returned (.string ⟨(Dg.sumL [1]).toArray⟩) ∧ Below u.heap.size u w' := sum_any ⟨#[1]⟩ u (by decide)
set_option maxHeartbeats 2000000 in
set_option maxRecDepth 100000 in
theorem head_any (w : World) (ht : Tab w) :
    Calls Tryd.prog 8 #[] w fun e w' => e = .returned (.bool true) ∧ Below w.heap.size w w' := by
  have HT := Lib.hid ht; clear ht
  have I1 := Lib.hid (fun u => is_any ⟨#[48, 49, 50, 51, 52, 53, 54, 55, 56, 57, 97, 98, 99, 100, 101, 102]⟩ u (by decide))
  have I2 := Lib.hid (fun u => is_any ⟨#[48, 49, 50, 51, 52, 53, 54, 55, 56, 57, 97, 98, 99, 100, 101, 70]⟩ u (by decide))
  have I3 := Lib.hid (fun u => is_any ⟨#[]⟩ u (by decide))
  rw [show (⟨#[48, 49, 50, 51, 52, 53, 54, 55, 56, 57, 97, 98, 99, 100, 101, 102]⟩ : ByteArray).data.toList = [48, 49, 50, 51, 52, 53, 54, 55, 56, 57, 97, 98, 99, 100, 101, 102] from rfl, h_one] at I1
  rw [show (⟨#[48, 49, 50, 51, 52, 53, 54, 55, 56, 57, 97, 98, 99, 100, 101, 70]⟩ : ByteArray).data.toList = [48, 49, 50, 51, 52, 53, 54, 55, 56, 57, 97, 98, 99, 100, 101, 70] from rfl, h_two] at I2
  rw [show (⟨#[]⟩ : ByteArray).data.toList = [] from rfl, h_three] at I3
  have EQ0 := congrArg Dg.sumL h_list
  have N1 : ¬ Dg.sumL [] = Dg.sumL [0] := fun e => absurd ((Dg.short_iff (by decide) (by decide)).1 e) (by decide)
  have NE1 : (Dg.sumL [] == Dg.sumL [0]) = false := by simpa using N1
  have N2 : ¬ Dg.sumL [1] = Dg.sumL [] := fun e => absurd ((Dg.short_iff (by decide) (by decide)).1 e) (by decide)
  have NE2 : (Dg.sumL [1] == Dg.sumL []) = false := by simpa using N2
  go_enter Tryd.func8, Tryd.ntmps8
  go_wp2_with fail
  refine (I1.out _).mono ?_
  rintro e w1 ⟨rfl, hb1⟩
  have B1 := Lib.hid hb1; clear hb1
  go_wp2_with fail
  refine (I2.out _).mono ?_
  rintro e w2 ⟨rfl, hb2⟩
  have B2 := Lib.hid (B1.out.trans (hb2.mono B1.out.size)); clear hb2
  go_wp2_with fail
  refine (I3.out _).mono ?_
  rintro e w3 ⟨rfl, hb3⟩
  have B3 := Lib.hid (B2.out.trans (hb3.mono B2.out.size)); clear hb3 I1 I2 I3 B1 B2
  go_wp2_with fail
  refine (list_any (some ⟨w3.heap.size, 0, none⟩) 2 2 [⟨#[97]⟩, ⟨#[98, 99]⟩] _ rfl (by decide) (by decide) ((HT.out.keep B3.out).keep ((Below.refl _ _).alloc (Nat.le_refl _) _)) (Rd.of_row (heap_alloc_new w3 _) (List.prefix_refl _))).mono ?_
  rw [EQ0]
  rintro e w4 ⟨rfl, hb4⟩
  have B4 := Lib.hid ((B3.out.alloc B3.out.size _).trans (hb4.mono (Nat.le_trans B3.out.size (by simp)))); clear hb4 B3
  go_wp2_with fail
  refine (s1 _).mono ?_
  rintro e w5 ⟨rfl, hb5⟩
  have B5 := Lib.hid (B4.out.trans (hb5.mono B4.out.size)); clear hb5 B4
  go_wp2_with fail
  refine (s2 _).mono ?_
  rintro e w6 ⟨rfl, hb6⟩
  have B6 := Lib.hid (B5.out.trans (hb6.mono B5.out.size)); clear hb6 B5
  go_wp2_with fail
  refine (s3 _).mono ?_
  rintro e w7 ⟨rfl, hb7⟩
  have B7 := Lib.hid (B6.out.trans (hb7.mono B6.out.size)); clear hb7 B6
  go_wp2_with fail
  refine (s4 _).mono ?_
  rintro e w8 ⟨rfl, hb8⟩
  have B8 := Lib.hid (B7.out.trans (hb8.mono B7.out.size)); clear hb8 B7
  go_wp2_with fail
  refine (s2 _).mono ?_
  rintro e w9 ⟨rfl, hb9⟩
  have B9 := Lib.hid (B8.out.trans (hb9.mono B8.out.size)); clear hb9 B8
  go_wp2_with fail
  go_ret
  exact ⟨rfl, B9.out⟩
end Go.Proofs.YtfgodkhgcmgckaaDoor
