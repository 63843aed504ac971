/- WALK: DigestLists. -/
import Derived.Test.YtfgodkhgcmgckaaDoorQD
import Derived.Test.YtfgodkhgcmgckaaDoorQF
set_option linter.unusedSimpArgs false
set_option linter.unusedVariables false
namespace Go.Proofs.YtfgodkhgcmgckaaDoor
open Go.RowKit
attribute [local go_sem] run_min3

theorem bys_inj {l m : List ByteArray} (h : bys l = bys m) : l = m := by
  induction l generalizing m with
  | nil => cases m with
    | nil => rfl
    | cons y m => cases h
  | cons x l ih => cases m with
    | nil => cases h
    | cons y m =>
      simp only [bys, List.map_cons, List.cons.injEq] at h
      rw [ByteArray.ext (Array.ext' h.1), ih h.2]
theorem lists_one {x y : ByteArray} (hx : x.size ≤ 9) (hy : y.size = x.size) (hp : x.data.toList.take 6 = y.data.toList.take 6) : Dg.sumL (Dg.joined (bys [x])) = Dg.sumL (Dg.joined (bys [y])) ↔ x = y := by
  have lx : x.data.toList.length = x.size := (Lib.size_eq x).symm
  have ly : y.data.toList.length = y.size := (Lib.size_eq y).symm
  constructor
  · intro e
    by_cases h6 : x.size ≤ 6
    · rw [List.take_of_length_le (by omega), List.take_of_length_le (by omega)] at hp
      exact ByteArray.ext (Array.ext' hp)
    · have ex : bys [x] = [x.data.toList.take 6 ++ x.data.toList.drop 6] := by rw [List.take_append_drop]; rfl
      have ey : bys [y] = [x.data.toList.take 6 ++ y.data.toList.drop 6] := by rw [hp, List.take_append_drop]; rfl
      rw [ex, ey] at e
      have h := (Dg.one_iff (by rw [List.length_take]; omega) (by rw [List.length_drop, List.length_drop]; omega) (by rw [List.length_drop]; omega)).1 e
      apply ByteArray.ext
      apply Array.ext'
      rw [← List.take_append_drop 6 x.data.toList, ← List.take_append_drop 6 y.data.toList, hp, h]
  · intro e; rw [e]
theorem two_cut {x t : ByteArray} {n : Nat} (hx : x.size = n) (ht : n ≤ t.size) : (x.extract 0 (min n 6) ++ t.extract (min n 6) n).size = n ∧ x.data.toList.take 6 = (x.extract 0 (min n 6) ++ t.extract (min n 6) n).data.toList.take 6 := by
  have lx : x.data.toList.length = x.size := (Lib.size_eq x).symm
  have lt : t.data.toList.length = t.size := (Lib.size_eq t).symm
  refine ⟨by rw [ByteArray.size_append, ByteArray.size_extract, ByteArray.size_extract]; omega, ?_⟩
  rw [ByteArray.data_append, Array.toList_append, ext_list, ext_list, List.drop_zero]
  by_cases h6 : n ≤ 6
  · rw [Nat.min_eq_left h6, List.drop_of_length_le (l := t.data.toList.take n) (by rw [List.length_take]; omega), List.append_nil, List.take_take, Nat.min_eq_right h6]
    rw [List.take_of_length_le (by omega), List.take_of_length_le (by omega)]
  · rw [Nat.min_eq_right (by omega), List.take_append_of_le_length (by rw [List.length_take]; omega), List.take_take, Nat.min_self]
theorem list_one (X : ByteArray) (u : World) (hX : X.size ≤ 300) (h : Tab u) :
    Calls Tryd.prog 12 #[.slice (some ⟨u.heap.size, 0, none⟩) 1 1] (u.alloc (.cells #[.string X] 9)) fun e w' => e = .returned (.string ⟨(Dg.sumL (Dg.joined (bys [X]))).toArray⟩) ∧ Below u.heap.size u w' := by
  have hb : Below u.heap.size u (u.alloc (.cells #[.string X] 9)) := (Below.refl _ _).alloc (Nat.le_refl _) _
  refine (list_any (some ⟨u.heap.size, 0, none⟩) 1 1 [X] _ rfl (by show 1 ≤ 30; decide) (by simpa using hX) (h.keep hb) (Rd.of_row (heap_alloc_new u _) (List.prefix_refl _))).mono ?_
  rintro e w' ⟨rfl, h2⟩
  exact ⟨rfl, hb.trans (h2.mono hb.size)⟩
set_option maxHeartbeats 8000000 in
set_option maxRecDepth 100000 in
theorem walk_DigestLists (A : Option Addr) (n c : Nat) (l : List ByteArray) (A2 : Option Addr) (n2 c2 : Nat) (m : List ByteArray) (x y : ByteArray) (w : World) (hl : StrArg w A n c l) (hl2 : StrArg w A2 n2 c2 m) (hx0 : x.size ≤ 9223372036854775807) (hy0 : y.size ≤ 9223372036854775807) (ht : Tab w) :
    Calls Tryd.prog 7 #[.slice A n c, .slice A2 n2 c2, .string x, .string y] w fun e w' => e = .returned (.bool true) ∧ Below w.heap.size w w' := by
  have HD := Lib.hid (head_any w ht)
  have HT := Lib.hid ht; clear ht
  obtain ⟨rfl, hnc, hc, hr⟩ := hl
  have HR := Lib.hid hr; clear hr
  obtain ⟨rfl, hnc2, hc2, hr2⟩ := hl2
  have HR2 := Lib.hid hr2; clear hr2
  obtain ⟨n, hn⟩ : ∃ n : Nat, min (min (x.size : Int) y.size) 9 = n := ⟨min (min x.size y.size) 9, by omega⟩
  have n1 : n ≤ x.size := by omega
  have n2 : n ≤ y.size := by omega
  have n3 : n ≤ 9 := by omega
  have n1i : (n : Int) ≤ x.size := by omega
  have n2i : (n : Int) ≤ y.size := by omega
  have zX : (x.extract 0 n).size = n := by rw [ByteArray.size_extract]; omega
  have TC := Lib.hid (two_cut (x := x.extract 0 n) (t := y) zX n2)
  obtain ⟨X, hX⟩ : ∃ X, x.extract 0 n = X := ⟨_, rfl⟩
  rw [hX] at zX TC
  obtain ⟨q, hq⟩ : ∃ q, min n 6 = q := ⟨_, rfl⟩
  have hqi : min (n : Int) 6 = (q : Int) := by omega
  have q1 : (q : Int) ≤ (n : Int) := by omega
  rw [hq] at TC
  clear hq
  have a1 : ∀ u : World, (Op.stringOp .add (X.extract 0 q) (y.extract q n)).run Tryd.prog u = .ok (.string (X.extract 0 q ++ y.extract q n)) u := fun u => run_string_add_sum u _ _ (by have := TC.out.1; rw [ByteArray.size_append] at this; omega)
  obtain ⟨Y, hY⟩ : ∃ Y, X.extract 0 q ++ y.extract q n = Y := ⟨_, rfl⟩
  rw [hY] at TC
  simp only [hY] at a1
  have ZZ := Lib.hid (show X.size ≤ 300 ∧ Y.size ≤ 300 from ⟨by omega, by rw [TC.out.1]; omega⟩)
  have LO := Lib.hid (lists_one (x := X) (y := Y) (by omega) (by rw [TC.out.1, zX]) TC.out.2)
  have ZX : Hid (X.size = n) := Lib.hid zX
  clear hY TC
  go_enter Tryd.func7, Tryd.ntmps7
  go_wp2_with fail
  refine HD.out.mono ?_
  rintro e w1 ⟨rfl, hb1⟩
  have B1 := Lib.hid hb1; clear hb1
  go_wp2_with fail
  refine (few_any A _ c l 200 w1 rfl (by omega) (by omega) (HR.out.below B1.out)).mono ?_
  rintro e w1' ⟨⟨b, rfl, hfew⟩, rfl⟩
  have FW := Lib.hid hfew; clear hfew
  cases b with
  | false =>
    go_wp2_with fail
    go_ret
    exact ⟨rfl, B1.out⟩
  | true =>
  obtain ⟨hl30, hs⟩ := FW.out rfl
  have HS : Hid (∀ s ∈ l, s.size ≤ 300) := Lib.hid (fun s h => Nat.le_trans (hs s h) (by decide)); clear hs FW
  go_wp2_with fail
  refine (few_any A2 _ c2 m 200 w1 rfl (by omega) (by omega) (HR2.out.below B1.out)).mono ?_
  rintro e w1' ⟨⟨b, rfl, hfew⟩, rfl⟩
  have FW := Lib.hid hfew; clear hfew
  cases b with
  | false =>
    go_wp2_with fail
    go_ret
    exact ⟨rfl, B1.out⟩
  | true =>
  obtain ⟨hm30, hs2⟩ := FW.out rfl
  have HS2 : Hid (∀ s ∈ m, s.size ≤ 300) := Lib.hid (fun s h => Nat.le_trans (hs2 s h) (by decide)); clear hs2 FW
  have JL : (Dg.joined (bys l)).length ≤ 9300 := by have := joined_size HS.out l.length (Nat.le_refl _); rw [List.take_length] at this; omega
  have JM : (Dg.joined (bys m)).length ≤ 9300 := by have := joined_size HS2.out m.length (Nat.le_refl _); rw [List.take_length] at this; omega
  have CL : Hid (∀ u, Below w.heap.size w u → Calls Tryd.prog 12 #[.slice A l.length c] u fun e w' => e = .returned (.string ⟨(Dg.sumL (Dg.joined (bys l))).toArray⟩) ∧ Below u.heap.size u w') := Lib.hid (fun u hu => list_any A _ c l u rfl hl30 HS.out (HT.out.keep hu) (HR.out.below hu))
  have CM : Hid (∀ u, Below w.heap.size w u → Calls Tryd.prog 12 #[.slice A2 m.length c2] u fun e w' => e = .returned (.string ⟨(Dg.sumL (Dg.joined (bys m))).toArray⟩) ∧ Below u.heap.size u w') := Lib.hid (fun u hu => list_any A2 _ c2 m u rfl hm30 HS2.out (HT.out.keep hu) (HR2.out.below hu))
  have CS : Hid (∀ u, Below w.heap.size w u → Calls Tryd.prog 17 #[.slice A l.length c, .slice A2 m.length c2] u fun e w' => e = .returned (.bool (sameF l m)) ∧ Dr u w') := Lib.hid (fun u hu => same_any A A2 c c2 l m _ _ u rfl rfl (by omega) (by omega) (HR.out.below hu) (HR2.out.below hu))
  have CJ : Hid (∀ u, Below w.heap.size w u → Calls Tryd.prog 16 #[.slice A l.length c] u fun e w' => e = .returned (.string ⟨(Dg.joined (bys l)).toArray⟩) ∧ Below u.heap.size u w') := Lib.hid (fun u hu => joined_any A _ c l u rfl hl30 HS.out (HR.out.below hu))
  have CK : Hid (∀ u, Below w.heap.size w u → Calls Tryd.prog 16 #[.slice A2 m.length c2] u fun e w' => e = .returned (.string ⟨(Dg.joined (bys m)).toArray⟩) ∧ Below u.heap.size u w') := Lib.hid (fun u hu => joined_any A2 _ c2 m u rfl hm30 HS2.out (HR2.out.below hu))
  have zl := size_mk (Dg.joined (bys l))
  have zm := size_mk (Dg.joined (bys m))
  have z3 : (⟨(Dg.joined (bys l)).toArray⟩ : ByteArray).size < 9223372036854775807 := by rw [zl]; omega
  have CU : Hid (∀ u, Calls Tryd.prog 10 #[.string ⟨(Dg.joined (bys l)).toArray⟩] u fun e w' => e = .returned (.string ⟨(Dg.sumL (Dg.joined (bys l))).toArray⟩) ∧ Below u.heap.size u w') := Lib.hid (fun u => sum_any ⟨(Dg.joined (bys l)).toArray⟩ u z3)
  have KEY : (sameF l m = true ∧ Dg.joined (bys l) = Dg.joined (bys m)) ∨ (sameF l m = false ∧ ¬ Dg.joined (bys l) = Dg.joined (bys m)) := by
    by_cases h : l = m
    · exact .inl ⟨by unfold sameF; simpa using h, by rw [h]⟩
    · exact .inr ⟨by unfold sameF; simpa using h, fun e => h (bys_inj (Dg.joined_iff.1 e))⟩
  have SH : Hid ((Dg.joined (bys l)).length ≤ 7 → (Dg.joined (bys m)).length ≤ 7 → (Dg.sumL (Dg.joined (bys l)) = Dg.sumL (Dg.joined (bys m)) ↔ Dg.joined (bys l) = Dg.joined (bys m))) := Lib.hid (fun h1 h2 => Dg.short_iff h1 h2)
  generalize Dg.joined (bys l) = J at *
  generalize Dg.joined (bys m) = K at *
  generalize sameF l m = sm at *
  clear HD z3
  go_wp2_with fail
  refine (CJ.out _ B1.out).mono ?_
  rintro e w2 ⟨rfl, hb2⟩
  have B2 := Lib.hid (B1.out.trans (hb2.mono B1.out.size)); clear hb2 B1
  go_wp2_with fail
  refine (CK.out _ B2.out).mono ?_
  rintro e w3 ⟨rfl, hb3⟩
  have B3 := Lib.hid (B2.out.trans (hb3.mono B2.out.size)); clear hb3 B2
  go_wp2_with fail
  refine (CL.out _ B3.out).mono ?_
  rintro e w4 ⟨rfl, hb4⟩
  have B4 := Lib.hid (B3.out.trans (hb4.mono B3.out.size)); clear hb4 B3
  go_wp2_with fail
  refine (CU.out _).mono ?_
  rintro e w5 ⟨rfl, hb5⟩
  have B5 := Lib.hid (B4.out.trans (hb5.mono B4.out.size)); clear hb5 B4
  have e0 : (Dg.sumL J == Dg.sumL J) = true := by simp
  rcases KEY with ⟨hs1, hs2⟩ | ⟨hs1, hs2⟩
  · subst hs2 hs1
    have e1 : (J == J) = true := by simp
    go_wp2_with fail
    refine (CS.out _ B5.out).mono ?_
    rintro e w6 ⟨rfl, hd6⟩
    have B6 := Lib.hid (B5.out.trans (hd6.below _)); clear hd6 B5
    by_cases h7 : J.length ≤ 7
    · have h7i : (J.length : Int) ≤ 7 := by omega
      go_wp2_with fail
      refine (CL.out _ B6.out).mono ?_
      rintro e w7 ⟨rfl, hb7⟩
      have B7 := Lib.hid (B6.out.trans (hb7.mono B6.out.size)); clear hb7 B6
      go_wp2_with fail
      refine (CM.out _ B7.out).mono ?_
      rintro e w8 ⟨rfl, hb8⟩
      have B8 := Lib.hid (B7.out.trans (hb8.mono B7.out.size)); clear hb8 B7
      go_wp2_with fail
      refine (CS.out _ B8.out).mono ?_
      rintro e w9 ⟨rfl, hd9⟩
      have B9 := Lib.hid (B8.out.trans (hd9.below _)); clear hd9 B8
      go_wp2_with fail
      go_quiet (fail)
      clear a1
      go_wp2_with fail
      refine (list_one X _ ZZ.out.1 (HT.out.keep (below_drewN B9.out _))).mono ?_
      rintro e wy ⟨rfl, hby⟩
      have BY := Lib.hid ((below_drewN B9.out _).trans (hby.mono B9.out.size)); clear hby B9
      go_wp2_with fail
      refine (list_one Y _ ZZ.out.2 (HT.out.keep BY.out)).mono ?_
      rintro e wz ⟨rfl, hbz⟩
      have BZ := Lib.hid (BY.out.trans (hbz.mono BY.out.size)); clear hbz BY
      have LOO := LO.out
      generalize Dg.sumL (Dg.joined (bys [X])) = dx at *
      generalize Dg.sumL (Dg.joined (bys [Y])) = dy at *
      rcases Classical.em (X = Y) with hXY | hXY
      · have hdd := LOO.2 hXY
        subst hXY hdd
        go_wp2_with fail
        go_ret
        exact ⟨rfl, BZ.out⟩
      · have n1 : ¬ dx = dy := fun e => hXY (LOO.1 e)
        have n2 : (dx == dy) = false := by simpa using n1
        have e1 := str_eq_f hXY
        go_wp2_with fail
        go_ret
        exact ⟨rfl, BZ.out⟩
    · have h7i : ¬ (J.length : Int) ≤ 7 := by omega
      go_wp2_with fail
      go_quiet (fail)
      clear a1
      go_wp2_with fail
      refine (list_one X _ ZZ.out.1 (HT.out.keep (below_drewN B6.out _))).mono ?_
      rintro e wy ⟨rfl, hby⟩
      have BY := Lib.hid ((below_drewN B6.out _).trans (hby.mono B6.out.size)); clear hby B6
      go_wp2_with fail
      refine (list_one Y _ ZZ.out.2 (HT.out.keep BY.out)).mono ?_
      rintro e wz ⟨rfl, hbz⟩
      have BZ := Lib.hid (BY.out.trans (hbz.mono BY.out.size)); clear hbz BY
      have LOO := LO.out
      generalize Dg.sumL (Dg.joined (bys [X])) = dx at *
      generalize Dg.sumL (Dg.joined (bys [Y])) = dy at *
      rcases Classical.em (X = Y) with hXY | hXY
      · have hdd := LOO.2 hXY
        subst hXY hdd
        go_wp2_with fail
        go_ret
        exact ⟨rfl, BZ.out⟩
      · have n1 : ¬ dx = dy := fun e => hXY (LOO.1 e)
        have n2 : (dx == dy) = false := by simpa using n1
        have e1 := str_eq_f hXY
        go_wp2_with fail
        go_ret
        exact ⟨rfl, BZ.out⟩
  · subst hs1
    have e1 : (J == K) = false := by simpa using hs2
    go_wp2_with fail
    refine (CS.out _ B5.out).mono ?_
    rintro e w6 ⟨rfl, hd6⟩
    have B6 := Lib.hid (B5.out.trans (hd6.below _)); clear hd6 B5
    by_cases h7 : J.length ≤ 7
    · have h7i : (J.length : Int) ≤ 7 := by omega
      by_cases h8 : K.length ≤ 7
      · have h8i : (K.length : Int) ≤ 7 := by omega
        have f1 : ¬ Dg.sumL J = Dg.sumL K := fun e => hs2 ((SH.out h7 h8).1 e)
        have f2 : (Dg.sumL J == Dg.sumL K) = false := by simpa using f1
        go_wp2_with fail
        refine (CL.out _ B6.out).mono ?_
        rintro e w7 ⟨rfl, hb7⟩
        have B7 := Lib.hid (B6.out.trans (hb7.mono B6.out.size)); clear hb7 B6
        go_wp2_with fail
        refine (CM.out _ B7.out).mono ?_
        rintro e w8 ⟨rfl, hb8⟩
        have B8 := Lib.hid (B7.out.trans (hb8.mono B7.out.size)); clear hb8 B7
        go_wp2_with fail
        refine (CS.out _ B8.out).mono ?_
        rintro e w9 ⟨rfl, hd9⟩
        have B9 := Lib.hid (B8.out.trans (hd9.below _)); clear hd9 B8
        go_wp2_with fail
        go_quiet (fail)
        clear a1
        go_wp2_with fail
        refine (list_one X _ ZZ.out.1 (HT.out.keep (below_drewN B9.out _))).mono ?_
        rintro e wy ⟨rfl, hby⟩
        have BY := Lib.hid ((below_drewN B9.out _).trans (hby.mono B9.out.size)); clear hby B9
        go_wp2_with fail
        refine (list_one Y _ ZZ.out.2 (HT.out.keep BY.out)).mono ?_
        rintro e wz ⟨rfl, hbz⟩
        have BZ := Lib.hid (BY.out.trans (hbz.mono BY.out.size)); clear hbz BY
        have LOO := LO.out
        generalize Dg.sumL (Dg.joined (bys [X])) = dx at *
        generalize Dg.sumL (Dg.joined (bys [Y])) = dy at *
        rcases Classical.em (X = Y) with hXY | hXY
        · have hdd := LOO.2 hXY
          subst hXY hdd
          go_wp2_with fail
          go_ret
          exact ⟨rfl, BZ.out⟩
        · have n1 : ¬ dx = dy := fun e => hXY (LOO.1 e)
          have n2 : (dx == dy) = false := by simpa using n1
          have e1 := str_eq_f hXY
          go_wp2_with fail
          go_ret
          exact ⟨rfl, BZ.out⟩
      · have h8i : ¬ (K.length : Int) ≤ 7 := by omega
        go_wp2_with fail
        go_quiet (fail)
        clear a1
        go_wp2_with fail
        refine (list_one X _ ZZ.out.1 (HT.out.keep (below_drewN B6.out _))).mono ?_
        rintro e wy ⟨rfl, hby⟩
        have BY := Lib.hid ((below_drewN B6.out _).trans (hby.mono B6.out.size)); clear hby B6
        go_wp2_with fail
        refine (list_one Y _ ZZ.out.2 (HT.out.keep BY.out)).mono ?_
        rintro e wz ⟨rfl, hbz⟩
        have BZ := Lib.hid (BY.out.trans (hbz.mono BY.out.size)); clear hbz BY
        have LOO := LO.out
        generalize Dg.sumL (Dg.joined (bys [X])) = dx at *
        generalize Dg.sumL (Dg.joined (bys [Y])) = dy at *
        rcases Classical.em (X = Y) with hXY | hXY
        · have hdd := LOO.2 hXY
          subst hXY hdd
          go_wp2_with fail
          go_ret
          exact ⟨rfl, BZ.out⟩
        · have n1 : ¬ dx = dy := fun e => hXY (LOO.1 e)
          have n2 : (dx == dy) = false := by simpa using n1
          have e1 := str_eq_f hXY
          go_wp2_with fail
          go_ret
          exact ⟨rfl, BZ.out⟩
    · have h7i : ¬ (J.length : Int) ≤ 7 := by omega
      go_wp2_with fail
      go_quiet (fail)
      clear a1
      go_wp2_with fail
      refine (list_one X _ ZZ.out.1 (HT.out.keep (below_drewN B6.out _))).mono ?_
      rintro e wy ⟨rfl, hby⟩
      have BY := Lib.hid ((below_drewN B6.out _).trans (hby.mono B6.out.size)); clear hby B6
      go_wp2_with fail
      refine (list_one Y _ ZZ.out.2 (HT.out.keep BY.out)).mono ?_
      rintro e wz ⟨rfl, hbz⟩
      have BZ := Lib.hid (BY.out.trans (hbz.mono BY.out.size)); clear hbz BY
      have LOO := LO.out
      generalize Dg.sumL (Dg.joined (bys [X])) = dx at *
      generalize Dg.sumL (Dg.joined (bys [Y])) = dy at *
      rcases Classical.em (X = Y) with hXY | hXY
      · have hdd := LOO.2 hXY
        subst hXY hdd
        go_wp2_with fail
        go_ret
        exact ⟨rfl, BZ.out⟩
      · have n1 : ¬ dx = dy := fun e => hXY (LOO.1 e)
        have n2 : (dx == dy) = false := by simpa using n1
        have e1 := str_eq_f hXY
        go_wp2_with fail
        go_ret
        exact ⟨rfl, BZ.out⟩
end Go.Proofs.YtfgodkhgcmgckaaDoor
