/- WALKS: the head of the laws of seals. -/
import Derived.Test.YthceonkdmcidcaaDoorSX
set_option linter.unusedSimpArgs false
set_option linter.unusedVariables false
namespace Go.Proofs.YthceonkdmcidcaaDoor
open Go.RowKit

theorem sv_take (l : List (List UInt8)) (k : Nat) : sv (l.take k) = (sv l).take k := by simp [sv, mkL, List.map_take]
theorem sv_drop (l : List (List UInt8)) (k : Nat) : sv (l.drop k) = (sv l).drop k := by simp [sv, mkL, List.map_drop]
theorem rd_drop1 {w : World} {b o : Nat} {L : List (List UInt8)} (h : Rd w (some ⟨b, o, none⟩) (sv L)) : Rd w (some ⟨b, o + 1, none⟩) (sv (L.drop 1)) := by
  intro hp
  obtain ⟨b', o', e, hb, hc⟩ := h (by rw [sv_len] at hp ⊢; rw [List.length_drop] at hp; omega)
  cases e
  refine ⟨b, o + 1, rfl, hb, fun i u hu => ?_⟩
  rw [sv_drop, List.getElem?_drop] at hu
  have := hc (1 + i) u hu
  rwa [show o + 1 + i = o + (1 + i) by omega]
def secB : ByteArray := ⟨#[115, 101, 99, 114, 101, 116]⟩
def msgB : ByteArray := ⟨#[109, 101, 115, 115, 97, 103, 101]⟩
set_option maxRecDepth 100000 in
set_option maxHeartbeats 8000000 in
theorem shead_any (w : World) (ht : Tab w) :
    Calls Tryd.prog 10 #[] w fun e w' => e = .returned (.bool true) ∧ Below w.heap.size w w' := by
  have HT := Lib.hid ht; clear ht
  have P1 : Hid (Calls Tryd.prog 13 #[.string ⟨#[115, 101, 99, 114, 101, 116]⟩, .int .i64 2] w fun e w' => e = .returned (.tuple #[.string (mkB (Sl.publicF secB.data.toList 2)), .int .i64 0]) ∧ Below w.heap.size w w') := Lib.hid (public_any secB 2 w (by decide) (by decide) HT.out)
  have P2 : Hid (∀ u, Calls Tryd.prog 13 #[.string ⟨#[115, 101, 99, 114, 101, 116]⟩, .int .i64 9] u fun e w' => e = .returned (.tuple #[.string ⟨#[]⟩, .int .i64 1]) ∧ u = w') := Lib.hid (fun u => public_bad secB 9 u (.inr (by decide)))
  have P3 : Hid (∀ u, Tab u → Calls Tryd.prog 15 #[.string ⟨#[115, 101, 99, 114, 101, 116]⟩, .int .i64 2, .int .i64 3, .string ⟨#[109, 101, 115, 115, 97, 103, 101]⟩] u (SignPost u 3 (Sl.sigF secB.data.toList 3 msgB.data.toList) (Sl.pathS secB.data.toList 2 3))) := Lib.hid (fun u hu => sign_any secB msgB 2 3 u (by decide) (by decide) (by decide) (by decide) hu)
  have P4 : Hid (∀ u, Calls Tryd.prog 15 #[.string ⟨#[115, 101, 99, 114, 101, 116]⟩, .int .i64 2, .int .i64 4, .string ⟨#[109, 101, 115, 115, 97, 103, 101]⟩] u fun e w' => e = .returned (.tuple #[.agg #[.int .i64 0, .slice none 0 0, .slice none 0 0], .int .i64 1]) ∧ Below u.heap.size u w') := Lib.hid (fun u => sign_bad secB msgB 2 4 u (.inr (.inr (.inr ⟨2, rfl, by decide, by decide⟩))))
  have V1 : Hid (verB (Sl.publicF secB.data.toList 2) msgB.data.toList ((3 : Nat) : Int) (Sl.sigF secB.data.toList 3 msgB.data.toList) (Sl.pathS secB.data.toList 2 3) = true) := Lib.hid (ver_own (by decide) (by decide))
  have sl : Hid ((Sl.sigF secB.data.toList 3 msgB.data.toList).length = 18) := Lib.hid (by simp [Sl.sigF])
  have pl : Hid ((Sl.pathS secB.data.toList 2 3).length = 2) := Lib.hid (Sl.path_len _ _ _)
  have sd : Hid (∀ t ∈ Sl.sigF secB.data.toList 3 msgB.data.toList, Dg.isD t = true) := Lib.hid sigF_isD
  have pd : Hid (∀ t ∈ Sl.pathS secB.data.toList 2 3, Dg.isD t = true) := Lib.hid (pathS_isD (by decide))
  have VN : Hid (Sl.verF msgB.data.toList 3 (Sl.sigF secB.data.toList 3 msgB.data.toList) (Sl.pathS secB.data.toList 2 3) ≠ []) := Lib.hid (by
    rw [Sl.verifies (by decide)]
    intro e
    have := isD_len (public_isD secB.data.toList 2)
    rw [e] at this; cases this)
  generalize Sl.sigF secB.data.toList 3 msgB.data.toList = SG at *
  generalize Sl.pathS secB.data.toList 2 3 = PT at *
  generalize Sl.publicF secB.data.toList 2 = PU at *
  go_enter Tryd.func10, Tryd.ntmps10
  go_wp2_with fail
  refine P1.out.mono ?_
  rintro e w1 ⟨rfl, hb1⟩
  have B1 := Lib.hid hb1; clear hb1
  go_wp2_with fail
  refine (P2.out _).mono ?_
  rintro e w1' ⟨rfl, rfl⟩
  go_wp2_with fail
  refine (P3.out _ (HT.out.keep B1.out)).mono ?_
  rintro e w2 ⟨A1, c1, A2, c2, rfl, ha1, ha2, ha3, ha4, hr1, hr2, hb2⟩
  have B2 := Lib.hid (B1.out.trans (hb2.mono B1.out.size)); clear hb2
  have R1 := Lib.hid hr1; have R2 := Lib.hid hr2; clear hr1 hr2
  rw [sl.out, pl.out]
  rw [sl.out] at ha1
  rw [pl.out] at ha3
  go_wp2_with fail
  refine (P4.out _).mono ?_
  rintro e w3 ⟨rfl, hb3⟩
  obtain ⟨q, hq⟩ : ∃ q, w2.heap.size = q := ⟨_, rfl⟩
  have HQ : Hid (w2.heap.size = q) := Lib.hid hq
  have G3 : Hid (w3.heap[q]? = some (.cells #[.int .i64 3, .slice A1 18 c1, .slice A2 2 c2] 24 (0, 0))) := Lib.hid ((hb3.block q (by rw [World.size_alloc]; omega)).trans (alloc_new' _ _ _ hq.symm))
  have B3 := Lib.hid (B2.out.trans (((Below.refl _ w2).alloc (Nat.le_refl _) _).trans (hb3.mono (by simp)) |>.mono B2.out.size))
  have R13 := Lib.hid ((R1.out.alloc (.cells #[.int .i64 3, .slice A1 18 c1, .slice A2 2 c2] 24)).below hb3)
  have R23 := Lib.hid ((R2.out.alloc (.cells #[.int .i64 3, .slice A1 18 c1, .slice A2 2 c2] 24)).below hb3)
  have hq3 : q < w3.heap.size := lt_of_block G3.out
  have hq4 : q < w3.heap.size + 1 := by omega
  have hq5 : q < w3.heap.size + 1 + 1 := by omega
  have hq6 : q < w3.heap.size + 1 + 1 + 1 := by omega
  have lq : w.heap.size ≤ q := by have := B2.out.size; omega
  clear hb3 R1 R2 P1 P2 P3 P4
  obtain ⟨b1, o1, rfl, hb1, hcell1⟩ := R13.out (by rw [sv_len, sl.out]; decide)
  obtain ⟨b2, o2, rfl, hb2, hcell2⟩ := R23.out (by rw [sv_len, pl.out]; decide)
  clear hcell1 hcell2
  obtain ⟨x0, x1, x2⟩ := cells3 G3.out
  have n1 : ¬ c1 = 1 := by omega
  rw [hq]
  clear hq
  have i18 : (1 : Int) ≤ (c1 : Int) := by omega
  have i2 : (1 : Int) ≤ (c2 : Int) := by omega
  have V2 : Hid (verB PU msgB.data.toList ((3 : Nat) : Int) SG (PT.take 1) = false) := Lib.hid (ver_false (by
    unfold preB
    rw [show (PT.take 1).length = 1 by rw [List.length_take, pl.out]; rfl]
    simp))
  have V3 : Hid (verB PU msgB.data.toList ((3 : Nat) : Int) (SG.drop 1) PT = false) := Lib.hid (ver_false (by
    unfold preB
    rw [show (SG.drop 1).length = 17 by rw [List.length_drop, sl.out]]
    simp))
  have V4 : Hid (verB [] msgB.data.toList ((3 : Nat) : Int) SG PT = false) := Lib.hid (by
    unfold verB
    rw [show decide (Sl.verF msgB.data.toList ((3 : Nat) : Int).toNat SG PT = []) = false from decide_eq_false VN.out]
    simp)
  have VC1 : Hid (∀ u, Below w3.heap.size w3 u → Calls Tryd.prog 18 #[.string (mkB PU), .string ⟨#[109, 101, 115, 115, 97, 103, 101]⟩, .agg #[.int .i64 3, .slice (some ⟨b1, o1, none⟩) 18 c1, .slice (some ⟨b2, o2, none⟩) 2 c2]] u fun e w' => e = .returned (.bool true) ∧ Below u.heap.size u w') := Lib.hid (fun u hu => by
    have := verify_any (mkB PU) msgB 3 (some ⟨b1, o1, none⟩) (some ⟨b2, o2, none⟩) c1 c2 SG PT u (by decide) ⟨R13.out.below hu, by rw [sl.out]; decide, isD_300 sd.out⟩ ⟨R23.out.below hu, by rw [pl.out]; decide, isD_300 pd.out⟩ (HT.out.keep (B3.out.trans (hu.mono B3.out.size)))
    rw [mkB_list, sl.out, pl.out, show verB PU msgB.data.toList 3 SG PT = true from V1.out] at this
    exact this)
  have VC2 : Hid (∀ u, Below w3.heap.size w3 u → Calls Tryd.prog 18 #[.string (mkB PU), .string ⟨#[109, 101, 115, 115, 97, 103, 101]⟩, .agg #[.int .i64 3, .slice (some ⟨b1, o1, none⟩) 18 c1, .slice (some ⟨b2, o2, none⟩) 1 c2]] u fun e w' => e = .returned (.bool false) ∧ Below u.heap.size u w') := Lib.hid (fun u hu => by
    have pl1 : (PT.take 1).length = 1 := by rw [List.length_take, pl.out]; rfl
    have := verify_any (mkB PU) msgB 3 (some ⟨b1, o1, none⟩) (some ⟨b2, o2, none⟩) c1 c2 SG (PT.take 1) u (by decide) ⟨R13.out.below hu, by rw [sl.out]; decide, isD_300 sd.out⟩ ⟨by rw [sv_take]; exact (R23.out.below hu).pre 1, by rw [pl1]; decide, isD_300 (fun t ht => pd.out t (List.mem_of_mem_take ht))⟩ (HT.out.keep (B3.out.trans (hu.mono B3.out.size)))
    rw [mkB_list, sl.out, pl1, show verB PU msgB.data.toList 3 SG (PT.take 1) = false from V2.out] at this
    exact this)
  have VC3 : Hid (∀ u, Below w3.heap.size w3 u → Calls Tryd.prog 18 #[.string (mkB PU), .string ⟨#[109, 101, 115, 115, 97, 103, 101]⟩, .agg #[.int .i64 3, .slice (some ⟨b1, o1 + 1, none⟩) 17 (c1 - 1), .slice (some ⟨b2, o2, none⟩) 2 c2]] u fun e w' => e = .returned (.bool false) ∧ Below u.heap.size u w') := Lib.hid (fun u hu => by
    have sl1 : (SG.drop 1).length = 17 := by rw [List.length_drop, sl.out]
    have := verify_any (mkB PU) msgB 3 (some ⟨b1, o1 + 1, none⟩) (some ⟨b2, o2, none⟩) (c1 - 1) c2 (SG.drop 1) PT u (by decide) ⟨rd_drop1 (R13.out.below hu), by rw [sl1]; decide, isD_300 (fun t ht => sd.out t (List.mem_of_mem_drop ht))⟩ ⟨R23.out.below hu, by rw [pl.out]; decide, isD_300 pd.out⟩ (HT.out.keep (B3.out.trans (hu.mono B3.out.size)))
    rw [mkB_list, sl1, pl.out, show verB PU msgB.data.toList 3 (SG.drop 1) PT = false from V3.out] at this
    exact this)
  have VC4 : Hid (∀ u, Below w3.heap.size w3 u → Calls Tryd.prog 18 #[.string ⟨#[]⟩, .string ⟨#[109, 101, 115, 115, 97, 103, 101]⟩, .agg #[.int .i64 3, .slice (some ⟨b1, o1, none⟩) 18 c1, .slice (some ⟨b2, o2, none⟩) 2 c2]] u fun e w' => e = .returned (.bool false) ∧ Below u.heap.size u w') := Lib.hid (fun u hu => by
    have := verify_any ⟨#[]⟩ msgB 3 (some ⟨b1, o1, none⟩) (some ⟨b2, o2, none⟩) c1 c2 SG PT u (by decide) ⟨R13.out.below hu, by rw [sl.out]; decide, isD_300 sd.out⟩ ⟨R23.out.below hu, by rw [pl.out]; decide, isD_300 pd.out⟩ (HT.out.keep (B3.out.trans (hu.mono B3.out.size)))
    rw [sl.out, pl.out, show verB (⟨#[]⟩ : ByteArray).data.toList msgB.data.toList 3 SG PT = false from V4.out] at this
    exact this)
  clear V1 V2 V3 V4 VN sl pl sd pd R13 R23
  go_wp2_with fail
  obtain ⟨W4, hW4⟩ : ∃ W4, W4 = ((w3.alloc (.cells #[.int .i64 0, .slice none 0 0, .slice none 0 0] 24)).alloc (.cells #[.int .i64 3, .slice (some ⟨b1, o1, none⟩) 18 c1, .slice (some ⟨b2, o2, none⟩) 1 c2] 24)).alloc (.cells #[.int .i64 3, .slice (some ⟨b1, o1 + 1, none⟩) 17 (c1 - 1), .slice (some ⟨b2, o2, none⟩) 2 c2] 24) := ⟨_, rfl⟩
  obtain ⟨r, hr⟩ : ∃ r, w3.heap.size = r := ⟨_, rfl⟩
  have BW4 : Hid (Below w3.heap.size w3 W4) := Lib.hid (by rw [hW4]; exact (((Below.refl _ _).alloc (Nat.le_refl _) _).alloc (by simp) _).alloc (by simp; omega) _)
  have Q4 : Hid (W4.heap[q]? = some (.cells #[.int .i64 3, .slice (some ⟨b1, o1, none⟩) 18 c1, .slice (some ⟨b2, o2, none⟩) 2 c2] 24 (0, 0))) := Lib.hid ((BW4.out.block q hq3).trans G3.out)
  have S9 : Hid (W4.heap[r + 1]? = some (.cells #[.int .i64 3, .slice (some ⟨b1, o1, none⟩) 18 c1, .slice (some ⟨b2, o2, none⟩) 1 c2] 24 (0, 0))) := Lib.hid (by rw [hW4, ← hr]; exact (alloc_old _ _ (by simp)).trans (alloc_new' _ _ _ (by simp)))
  have S10 : Hid (W4.heap[r + 1 + 1]? = some (.cells #[.int .i64 3, .slice (some ⟨b1, o1 + 1, none⟩) 17 (c1 - 1), .slice (some ⟨b2, o2, none⟩) 2 c2] 24 (0, 0))) := Lib.hid (by rw [hW4, ← hr]; exact alloc_new' _ _ _ (by simp))
  rw [← hW4]
  have HR : Hid (w3.heap.size = r) := Lib.hid hr
  rw [hr]
  clear hW4 hr hq4 hq5 hq6 x0 x1 x2
  refine (VC1.out _ BW4.out).mono ?_
  rintro e w5 ⟨rfl, hb5⟩
  have B5 := Lib.hid (BW4.out.trans (hb5.mono BW4.out.size))
  have Q5 := Lib.hid ((hb5.block q (lt_of_block Q4.out)).trans Q4.out)
  have S95 := Lib.hid ((hb5.block (r + 1) (lt_of_block S9.out)).trans S9.out)
  have S105 := Lib.hid ((hb5.block (r + 1 + 1) (lt_of_block S10.out)).trans S10.out)
  clear hb5
  obtain ⟨x0, x1, x2⟩ := cells3 S95.out
  go_wp2_with fail
  refine (VC2.out _ B5.out).mono ?_
  rintro e w6 ⟨rfl, hb6⟩
  have B6 := Lib.hid (B5.out.trans (hb6.mono B5.out.size))
  have Q6 := Lib.hid ((hb6.block q (lt_of_block Q5.out)).trans Q5.out)
  have S106 := Lib.hid ((hb6.block (r + 1 + 1) (lt_of_block S105.out)).trans S105.out)
  clear hb6 x0 x1 x2
  obtain ⟨x0, x1, x2⟩ := cells3 S106.out
  go_wp2_with fail
  refine (VC3.out _ B6.out).mono ?_
  rintro e w7 ⟨rfl, hb7⟩
  have B7 := Lib.hid (B6.out.trans (hb7.mono B6.out.size))
  have Q7 := Lib.hid ((hb7.block q (lt_of_block Q6.out)).trans Q6.out)
  clear hb7 x0 x1 x2
  obtain ⟨x0, x1, x2⟩ := cells3 Q7.out
  go_wp2_with fail
  refine (VC4.out _ B7.out).mono ?_
  rintro e w8 ⟨rfl, hb8⟩
  have B8 := Lib.hid (B7.out.trans (hb8.mono B7.out.size))
  clear hb8 x0 x1 x2
  go_wp2_with fail
  go_ret
  exact ⟨rfl, B3.out.trans (B8.out.mono B3.out.size)⟩
end Go.Proofs.YthceonkdmcidcaaDoor
