/- WALK: SealVerifies. -/
import Derived.Test.YthceonkdmcidcaaDoorSY
import Derived.Deep.DeepCutAuto
set_option linter.unusedSimpArgs false
set_option linter.unusedVariables false
namespace Go.Proofs.YthceonkdmcidcaaDoor
open Go.RowKit

theorem sameF_refl (l : List ByteArray) : sameF l l = true := by unfold sameF; simp
set_option maxRecDepth 100000 in
set_option maxHeartbeats 2000000 in
theorem same2_eq (i : Int) (A1 A2 A3 A4 : Option Addr) (c1 c2 c3 c4 : Nat) (L P : List (List UInt8)) (w : World) (hL : L.length ≤ 1000) (hP : P.length ≤ 1000) (r1 : Rd w A1 (sv L)) (r2 : Rd w A2 (sv P)) (r3 : Rd w A3 (sv L)) (r4 : Rd w A4 (sv P)) :
    Calls Tryd.prog 17 #[.agg #[.int .i64 i, .slice A1 L.length c1, .slice A2 P.length c2], .agg #[.int .i64 i, .slice A3 L.length c3, .slice A4 P.length c4]] w fun e w' => e = .returned (.bool true) ∧ Below w.heap.size w w' := by
  have SL : Hid (∀ u, Below w.heap.size w u → Calls Tryd.prog 21 #[.slice A1 L.length c1, .slice A3 L.length c3] u fun e w' => e = .returned (.bool true) ∧ Dr u w') := Lib.hid (fun u hu => by
    have := same_any A1 A3 c1 c3 (mkL L) (mkL L) L.length L.length u (mkL_len L).symm (mkL_len L).symm (by rw [mkL_len]; omega) (by rw [mkL_len]; omega) (r1.below hu) (r3.below hu)
    rwa [sameF_refl] at this)
  have SP : Hid (∀ u, Below w.heap.size w u → Calls Tryd.prog 21 #[.slice A2 P.length c2, .slice A4 P.length c4] u fun e w' => e = .returned (.bool true) ∧ Dr u w') := Lib.hid (fun u hu => by
    have := same_any A2 A4 c2 c4 (mkL P) (mkL P) P.length P.length u (mkL_len P).symm (mkL_len P).symm (by rw [mkL_len]; omega) (by rw [mkL_len]; omega) (r2.below hu) (r4.below hu)
    rwa [sameF_refl] at this)
  clear r1 r2 r3 r4
  generalize L.length = n1 at *
  generalize P.length = n2 at *
  have B2 : Hid (Below w.heap.size w ((w.alloc (.cells #[.int .i64 i, .slice A1 n1 c1, .slice A2 n2 c2] 24)).alloc (.cells #[.int .i64 i, .slice A3 n1 c3, .slice A4 n2 c4] 24))) := Lib.hid (((Below.refl _ _).alloc (Nat.le_refl _) _).alloc (by simp) _)
  have ei : (i == i) = true := by simp
  go_enter Tryd.func17, Tryd.ntmps17
  go_wp2_with fail
  refine (SL.out _ B2.out).mono ?_
  rintro e w2 ⟨rfl, hd⟩
  obtain ⟨k, rfl⟩ := hd
  go_wp2_with fail
  refine (SP.out _ (below_drewN B2.out k)).mono ?_
  rintro e w3 ⟨rfl, hd⟩
  have B3 := Lib.hid ((below_drewN B2.out k).trans (hd.below _)); clear hd
  go_wp2_with fail
  go_ret
  exact ⟨rfl, B3.out⟩
set_option maxRecDepth 100000 in
set_option maxHeartbeats 8000000 in
theorem walk_SealVerifies (s : ByteArray) (x y : Int) (m : ByteArray) (w : World) (hs0 : s.size ≤ 9223372036854775807) (hx0 : 0 ≤ x) (hx1 : x ≤ 255) (hy0 : 0 ≤ y) (hy1 : y ≤ 255) (hm0 : m.size ≤ 9223372036854775807) (ht : Tab w) :
    Calls Tryd.prog 4 #[.string s, .int .u8 x, .int .u8 y, .string m] w fun e w' => e = .returned (.bool true) ∧ Below w.heap.size w w' := by
  have HD := Lib.hid (shead_any w ht)
  have HT := Lib.hid ht; clear ht
  obtain ⟨p, rfl⟩ : ∃ p : Nat, x = p := ⟨x.toNat, by omega⟩
  obtain ⟨p2, rfl⟩ : ∃ p : Nat, y = p := ⟨y.toNat, by omega⟩
  obtain ⟨h, HH⟩ : ∃ h : Nat, Hid (p % 4 = h) := ⟨_, Lib.hid rfl⟩
  have h4 : h < 4 := by rw [← HH.out]; exact Nat.mod_lt _ (by decide)
  have hh8 : h ≤ 8 := Nat.le_trans (Nat.le_of_lt h4) (by decide)
  have hh9 : h + 1 ≤ 8 := Nat.le_trans h4 (by decide)
  obtain ⟨n, HN⟩ : ∃ n : Nat, Hid (2 ^ h = n) := ⟨_, Lib.hid rfl⟩
  have n0 : 0 < n := by rw [← HN.out]; exact pow_pos2 h
  have n8 : n ≤ 256 := by rw [← HN.out]; exact pow_le8 hh8
  obtain ⟨i, HI⟩ : ∃ i : Nat, Hid (p2 % n = i) := ⟨_, Lib.hid rfl⟩
  have hin : i < n := by rw [← HI.out]; exact Nat.mod_lt _ n0
  have hi2 : Hid (i < 2 ^ h) := Lib.hid (by rw [HN.out]; exact hin)
  have hi3 : Hid (i < 2 ^ (h + 1)) := Lib.hid (by rw [pow_two, HN.out]; exact Nat.lt_of_lt_of_le hin (Nat.le_mul_of_pos_left n (by decide)))
  have w9 : IntKind.i64.wrap (p : Int) = (p : Int) := IntWalk.i64_in _ (by omega)
  have w8 : IntKind.i64.wrap (p2 : Int) = (p2 : Int) := IntWalk.i64_in _ (by omega)
  have wh1 : IntKind.i64.wrap ((h : Int) + 1) = ((h + 1 : Nat) : Int) := IntWalk.i64_in _ (by omega)
  have i0 : (0 : Int) ≤ (h : Int) := by omega
  have i1 : (h : Int) < 64 := by omega
  have n1 : ¬ (n : Int) = 0 := by omega
  have n2 : (1 : Int) ≤ (n : Int) := by omega
  have p0 : (0 : Int) ≤ (p : Int) := hx0
  have p20 : (0 : Int) ≤ (p2 : Int) := hy0
  have T1 : Hid ((p : Int).tmod 4 = (h : Int)) := Lib.hid (by rw [Int.tmod_eq_emod_of_nonneg p0, ← HH.out]; rfl)
  have T1' : Hid ((p : Int) % 4 = (h : Int)) := Lib.hid (by rw [← HH.out]; rfl)
  have T2 : Hid ((p2 : Int).tmod (n : Int) = (i : Int)) := Lib.hid (by rw [Int.tmod_eq_emod_of_nonneg p20, ← HI.out]; rfl)
  have T2' : Hid ((p2 : Int) % (n : Int) = (i : Int)) := Lib.hid (by rw [← HI.out]; rfl)
  have HPW : Hid (wrap64 (2 ^ h) = (n : Int) ∧ IntKind.i64.wrap (2 ^ h) = (n : Int)) := Lib.hid (by
    have a := wrap_pow hh8; have b := wrap_pow2 hh8
    rw [HN.out] at a b
    exact ⟨a, b⟩)
  clear hx0 hx1 hy0 hy1
  go_enter Tryd.func4, Tryd.ntmps4
  go_wp2_with fail
  refine HD.out.mono ?_
  rintro e w1 ⟨rfl, hb1⟩
  have B1 := Lib.hid hb1; clear hb1 HD
  have B1a : Hid (Below w.heap.size w (w1.alloc (.cells #[.string s, .string m] 9))) := Lib.hid (B1.out.alloc B1.out.size _)
  go_wp2_with fail
  refine (short_any _ 2 2 [s, m] _ rfl (by show 2 ≤ 1000; decide) (Rd.of_row (heap_alloc_new w1 _) (List.prefix_refl _))).mono ?_
  rintro e w1' ⟨⟨b, rfl, hfew⟩, rfl⟩
  have FW := Lib.hid hfew; clear hfew
  cases b with
  | false =>
    go_wp2_with fail
    go_ret
    exact ⟨rfl, B1a.out⟩
  | true =>
    have hs : s.size ≤ 300 := FW.out rfl s (by simp)
    have hm : m.size ≤ 300 := FW.out rfl m (by simp)
    clear FW
    have PA := Lib.hid (fun u (hu : Below w.heap.size w u) => public_any s h u hs hh8 (HT.out.keep hu))
    have SA := Lib.hid (fun u (hu : Below w.heap.size w u) => sign_any s m h i u hs (by omega) hh8 hi2.out (HT.out.keep hu))
    have SA2 := Lib.hid (fun u (hu : Below w.heap.size w u) => sign_any s m (h + 1) i u hs (by omega) hh9 hi3.out (HT.out.keep hu))
    have V1 : Hid (verB (Sl.publicF s.data.toList h) m.data.toList (i : Int) (Sl.sigF s.data.toList i m.data.toList) (Sl.pathS s.data.toList h i) = true) := Lib.hid (ver_own hh8 hi2.out)
    have sl : Hid ((Sl.sigF s.data.toList i m.data.toList).length = 18) := Lib.hid (by simp [Sl.sigF])
    have pl : Hid ((Sl.pathS s.data.toList h i).length = h) := Lib.hid (Sl.path_len _ _ _)
    have sd : Hid (∀ t ∈ Sl.sigF s.data.toList i m.data.toList, Dg.isD t = true) := Lib.hid sigF_isD
    have pd : Hid (∀ t ∈ Sl.pathS s.data.toList h i, Dg.isD t = true) := Lib.hid (pathS_isD hi2.out)
    have ud : Hid (Dg.isD (Sl.publicF s.data.toList h) = true) := Lib.hid (public_isD _ _)
    generalize Sl.sigF s.data.toList i m.data.toList = SG at *
    generalize Sl.pathS s.data.toList h i = PT at *
    generalize Sl.pathS s.data.toList (h + 1) i = PT2 at *
    generalize Sl.publicF s.data.toList h = PU at *
    have t1 := T1.out
    go_upto_region 5 with fail
    clear t1 w9
    obtain ⟨PW, PW2⟩ := HPW.out
    have t2 := T2.out
    go_upto_region 6 with fail
    clear PW PW2 t2 w8
    go_wp2_with fail
    refine (PA.out _ B1a.out).mono ?_
    rintro e w2 ⟨rfl, hb2⟩
    have B2 := Lib.hid (B1a.out.trans (hb2.mono B1a.out.size)); clear hb2 B1a PA
    go_wp2_with fail
    refine (SA.out _ B2.out).mono ?_
    rintro e w3 ⟨A1, c1, A2, c2, rfl, a1, a2, a3, a4, r1, r2, hb3⟩
    have B3 := Lib.hid (B2.out.trans (hb3.mono B2.out.size)); clear hb3 B2
    rw [sl.out] at a1; rw [pl.out] at a3
    rw [sl.out, pl.out]
    have B3a : Hid (Below w.heap.size w (w3.alloc (.cells #[.int .i64 i, .slice A1 18 c1, .slice A2 h c2] 24))) := Lib.hid (B3.out.alloc B3.out.size _)
    have R1 := Lib.hid (r1.alloc (.cells #[.int .i64 i, .slice A1 18 c1, .slice A2 h c2] 24)); have R2 := Lib.hid (r2.alloc (.cells #[.int .i64 i, .slice A1 18 c1, .slice A2 h c2] 24))
    have G := Lib.hid (heap_alloc_new w3 (.cells #[.int .i64 i, .slice A1 18 c1, .slice A2 h c2] 24))
    obtain ⟨q1, hq1⟩ : ∃ q, w3.heap.size = q := ⟨_, rfl⟩
    rw [hq1] at G
    clear r1 r2
    go_wp2_with fail
    refine (SA.out _ B3a.out).mono ?_
    rintro e w4 ⟨A3, c3, A4, c4, rfl, a5, a6, a7, a8, r3, r4, hb4⟩
    have B4 := Lib.hid (B3a.out.trans (hb4.mono B3a.out.size))
    rw [sl.out, pl.out]
    have R1b := Lib.hid (R1.out.below hb4); have R2b := Lib.hid (R2.out.below hb4)
    have G4 := Lib.hid ((hb4.block q1 (lt_of_block G.out)).trans G.out)
    have K4 : Hid (Below w4.heap.size w4 (w4.alloc (.cells #[.int .i64 i, .slice A3 18 c3, .slice A4 h c4] 24))) := Lib.hid ((Below.refl _ _).alloc (Nat.le_refl _) _)
    have B4a := Lib.hid (B4.out.trans (K4.out.mono B4.out.size))
    have G4a := Lib.hid ((K4.out.block q1 (lt_of_block G4.out)).trans G4.out)
    have H4a := Lib.hid (heap_alloc_new w4 (.cells #[.int .i64 i, .slice A3 18 c3, .slice A4 h c4] 24))
    obtain ⟨q2, hq2⟩ : ∃ q, w4.heap.size = q := ⟨_, rfl⟩
    rw [hq2] at H4a
    have R1c := Lib.hid (R1b.out.below K4.out); have R2c := Lib.hid (R2b.out.below K4.out)
    have R3c := Lib.hid (r3.below K4.out); have R4c := Lib.hid (r4.below K4.out)
    clear hb4 r3 r4 R1 R2 R1b R2b G G4
    go_wp2_with fail
    refine (SA2.out _ B4a.out).mono ?_
    rintro e w5 ⟨A5, c5, A6, c6, rfl, a9, a10, a11, a12, r5, r6, hb5⟩
    rw [sl.out]
    have B5 := Lib.hid (B4a.out.trans (hb5.mono B4a.out.size))
    obtain ⟨n3, hn3⟩ : ∃ n, PT2.length = n := ⟨_, rfl⟩
    rw [hn3]
    have K5 : Hid (Below w5.heap.size w5 (w5.alloc (.cells #[.int .i64 i, .slice A5 18 c5, .slice A6 n3 c6] 24))) := Lib.hid ((Below.refl _ _).alloc (Nat.le_refl _) _)
    have G5 := Lib.hid ((hb5.block q1 (lt_of_block G4a.out)).trans G4a.out)
    have H5 := Lib.hid ((hb5.block q2 (lt_of_block H4a.out)).trans H4a.out)
    have B6 := Lib.hid (B5.out.trans (K5.out.mono B5.out.size))
    have G6 := Lib.hid ((K5.out.block q1 (lt_of_block G5.out)).trans G5.out)
    have H6 := Lib.hid ((K5.out.block q2 (lt_of_block H5.out)).trans H5.out)
    have R1d := Lib.hid ((R1c.out.below hb5).below K5.out); have R2d := Lib.hid ((R2c.out.below hb5).below K5.out)
    have R3d := Lib.hid ((R3c.out.below hb5).below K5.out); have R4d := Lib.hid ((R4c.out.below hb5).below K5.out)
    have R5d := Lib.hid (r5.below K5.out)
    have I6 := Lib.hid (heap_alloc_new w5 (.cells #[.int .i64 i, .slice A5 18 c5, .slice A6 n3 c6] 24))
    obtain ⟨q3, hq3⟩ : ∃ q, w5.heap.size = q := ⟨_, rfl⟩
    rw [hq3] at I6
    obtain ⟨W6, hW6⟩ : ∃ W, W = w5.alloc (.cells #[.int .i64 i, .slice A5 18 c5, .slice A6 n3 c6] 24) := ⟨_, rfl⟩
    rw [← hW6] at G6 H6 I6 R1d R2d R3d R4d R5d B6 
    clear hb5 r5 r6 K5 K4 G5 H5 G4a H4a R1c R2c R3c R4c SA SA2 B3 B3a B4 B4a B5 hn3
    obtain ⟨x0, x1, x2⟩ := cells3 G6.out
    obtain ⟨y0, y1, y2⟩ := cells3 H6.out
    obtain ⟨z0, z1, z2⟩ := cells3 I6.out
    have ei : ((i : Int) != (i : Int)) = false := by simp
    have eh : ((h : Int) != (h : Int)) = false := by simp
    have S2 : Hid (Calls Tryd.prog 17 #[.agg #[.int .i64 i, .slice A1 18 c1, .slice A2 h c2], .agg #[.int .i64 i, .slice A3 18 c3, .slice A4 h c4]] W6 fun e w' => e = .returned (.bool true) ∧ Below W6.heap.size W6 w') := Lib.hid (by
      have := same2_eq (i : Int) A1 A2 A3 A4 c1 c2 c3 c4 SG PT W6 (by rw [sl.out]; decide) (by rw [pl.out]; omega) R1d.out R2d.out R3d.out R4d.out
      rw [sl.out, pl.out] at this
      exact this)
    go_upto_region 10 with fail
    rw [← hW6]
    clear hW6
    go_wp2_with fail
    refine S2.out.mono ?_
    rintro e w7 ⟨rfl, hb7⟩
    have B7 := Lib.hid (B6.out.trans (hb7.mono B6.out.size))
    have G7 := Lib.hid ((hb7.block q1 (lt_of_block G6.out)).trans G6.out)
    have I7 := Lib.hid ((hb7.block q3 (lt_of_block I6.out)).trans I6.out)
    have R1 := Lib.hid (R1d.out.below hb7); have R2 := Lib.hid (R2d.out.below hb7); have R5 := Lib.hid (R5d.out.below hb7)
    have hl1 := lt_of_block G7.out
    have hl3 := lt_of_block I7.out
    clear hb7 R1d R2d R3d R4d R5d G6 H6 I6 S2 x0 x1 x2 y0 y1 y2 z0 z1 z2 B6 hq1 hq2 hq3 ei eh B1
    have ST : Hid (Below w7.heap.size w7 w7) := Lib.hid (Below.refl _ _)
    go_wp2_with fail
    go_loopw [20] (fun i' wr => ∃ k : Nat, k ≤ 18 ∧ i' = .int .i64 k ∧ Hid (Below w7.heap.size w7 wr)) (fun i' _ => 18 - (intOf i').toNat)
    case atStart => exact ⟨0, by omega, rfl, ST⟩
    case round =>
      clear ST
      obtain ⟨k, hk, rfl, hbl⟩ := hrel
      have x1 := (cells3 ((hbl.out.block q1 hl1).trans G7.out)).2.1
      by_cases hlt : k < 18
      · have hks : k < SG.length := by rw [sl.out]; exact hlt
        obtain ⟨b, off, eA, hb, hcell⟩ := (R1.out.below hbl.out) (by rw [sv_len, sl.out]; decide)
        subst eA
        have hc := hcell k _ (getD_at hks)
        have hd : Dg.isD (SG.getD k []) = true := by rw [List.getD_eq_getElem?_getD, List.getElem?_eq_getElem hks]; exact sd.out _ (List.getElem_mem hks)
        have IA : Hid (∀ u, Calls Tryd.prog 20 #[.string (mkB (SG.getD k []))] u fun e w' => e = .returned (.bool true) ∧ Below u.heap.size u w') := Lib.hid (fun u => by
          have := is_any (mkB (SG.getD k [])) u (by rw [mkB_size, isD_len hd]; decide)
          rwa [mkB_list, hd] at this)
        clear hcell hd hks
        generalize SG.getD k [] = y at *
        have d1 : (k : Int) < 18 := by omega
        go_wp2_with fail
        refine (IA.out _).mono ?_
        rintro e w8 ⟨rfl, hb8⟩
        have B8 := Lib.hid (hbl.out.trans (hb8.mono hbl.out.size)); clear hb8
        go_wp2_with fail
        exact ⟨⟨k + 1, hlt, by go_num, B8⟩, by simp [intOf]; omega⟩
      · obtain rfl : k = 18 := by omega
        have d1 : ¬ ((18 : Nat) : Int) < 18 := by omega
        obtain ⟨wa, hwa⟩ : ∃ W, W = wr := ⟨_, rfl⟩
        rw [← hwa] at hbl x1 ⊢
        clear hwa
        go_wp2_with fail
        clear x1
        go_loopw [21] (fun i' wr => ∃ k : Nat, k ≤ h ∧ i' = .int .i64 k ∧ Hid (Below w7.heap.size w7 wr)) (fun i' _ => h - (intOf i').toNat)
        case atStart => exact ⟨0, by omega, rfl, hbl⟩
        case round =>
          clear hbl
          obtain ⟨k, hk, rfl, hbl⟩ := hrel
          have GG := Lib.hid ((hbl.out.block q1 hl1).trans G7.out)
          have x2 := (cells3 GG.out).2.2
          by_cases hlt : k < h
          · have hks : k < PT.length := by rw [pl.out]; exact hlt
            obtain ⟨b, off, eA, hb, hcell⟩ := (R2.out.below hbl.out) (by rw [sv_len, pl.out]; omega)
            subst eA
            have hc := hcell k _ (getD_at hks)
            have hd : Dg.isD (PT.getD k []) = true := by rw [List.getD_eq_getElem?_getD, List.getElem?_eq_getElem hks]; exact pd.out _ (List.getElem_mem hks)
            have IA : Hid (∀ u, Calls Tryd.prog 20 #[.string (mkB (PT.getD k []))] u fun e w' => e = .returned (.bool true) ∧ Below u.heap.size u w') := Lib.hid (fun u => by
              have := is_any (mkB (PT.getD k [])) u (by rw [mkB_size, isD_len hd]; decide)
              rwa [mkB_list, hd] at this)
            clear hcell hd hks
            generalize PT.getD k [] = y at *
            have d1 : (k : Int) < (h : Int) := by omega
            go_wp2_with fail
            refine (IA.out _).mono ?_
            rintro e w8 ⟨rfl, hb8⟩
            have B8 := Lib.hid (hbl.out.trans (hb8.mono hbl.out.size)); clear hb8
            go_wp2_with fail
            exact ⟨⟨k + 1, hlt, by go_num, B8⟩, by simp [intOf]; omega⟩
          · obtain rfl : k = h := by omega
            have d1 : ¬ (k : Int) < (k : Int) := by omega
            have IP : Hid (∀ u, Calls Tryd.prog 20 #[.string (mkB PU)] u fun e w' => e = .returned (.bool true) ∧ Below u.heap.size u w') := Lib.hid (fun u => by
              have := is_any (mkB PU) u (by rw [mkB_size, isD_len ud.out]; decide)
              rwa [mkB_list, ud.out] at this)
            have SS : Hid (∀ u, Below w7.heap.size w7 u → Calls Tryd.prog 21 #[.slice A5 18 c5, .slice A1 18 c1] u fun e w' => e = .returned (.bool true) ∧ Dr u w') := Lib.hid (fun u hu => by
              have := same_any A5 A1 c5 c1 (mkL SG) (mkL SG) 18 18 u (by rw [mkL_len, sl.out]) (by rw [mkL_len, sl.out]) (by rw [mkL_len, sl.out]; decide) (by rw [mkL_len, sl.out]; decide) (R5.out.below hu) (R1.out.below hu)
              rwa [sameF_refl] at this)
            have VV : Hid (∀ u, Below w7.heap.size w7 u → Calls Tryd.prog 18 #[.string (mkB PU), .string m, .agg #[.int .i64 i, .slice A1 18 c1, .slice A2 k c2]] u fun e w' => e = .returned (.bool true) ∧ Below u.heap.size u w') := Lib.hid (fun u hu => by
              have := verify_any (mkB PU) m (i : Int) A1 A2 c1 c2 SG PT u (by omega) ⟨R1.out.below hu, by rw [sl.out]; decide, isD_300 sd.out⟩ ⟨R2.out.below hu, by rw [pl.out]; omega, isD_300 pd.out⟩ (HT.out.keep (B7.out.trans (hu.mono B7.out.size)))
              rw [mkB_list, sl.out, pl.out, V1.out] at this
              exact this)
            obtain ⟨wb, hwb⟩ : ∃ W, W = wr := ⟨_, rfl⟩
            rw [← hwb] at hbl GG x2 ⊢
            clear hwb
            go_wp2_with fail
            refine (IP.out _).mono ?_
            rintro e w8 ⟨rfl, hb8⟩
            have B8 := Lib.hid (hbl.out.trans (hb8.mono hbl.out.size))
            have G8 := Lib.hid ((hb8.block q1 (lt_of_block GG.out)).trans GG.out)
            have I8 := Lib.hid ((B8.out.block q3 hl3).trans I7.out)
            clear hb8 x2
            obtain ⟨x0, x1, x2⟩ := cells3 G8.out
            obtain ⟨z0, z1, z2⟩ := cells3 I8.out
            go_wp2_with fail
            refine (SS.out _ B8.out).mono ?_
            rintro e w9 ⟨rfl, hd⟩
            obtain ⟨kk, rfl⟩ := hd
            go_wp2_with fail
            refine (VV.out _ (below_drewN B8.out kk)).mono ?_
            rintro e w10 ⟨rfl, hb10⟩
            have B10 := Lib.hid (B7.out.trans (((below_drewN B8.out kk).trans (hb10.mono B8.out.size)).mono B7.out.size)); clear hb10
            go_wp2_with fail
            go_ret
            exact ⟨rfl, B10.out⟩
end Go.Proofs.YthceonkdmcidcaaDoor
