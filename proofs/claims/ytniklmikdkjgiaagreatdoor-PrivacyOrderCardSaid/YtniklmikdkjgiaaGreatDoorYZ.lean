/- WALK: the statement PrivacyOrder. -/
import Derived.Test.YtniklmikdkjgiaaGreatDoorYW
import Derived.Test.YtniklmikdkjgiaaGreatDoorXO
set_option linter.unusedSimpArgs false
set_option linter.unusedVariables false
namespace Go.Proofs.YtniklmikdkjgiaaGreatDoor
open Go.RowKit

theorem allFewR_two {a b : RL} {n : Nat} : allFewR [a, b] n = (fewL (rcsC a.l) n && fewL (rcsC b.l) n) := by simp [allFewR]
theorem rcsC_app (a b : List RV) : rcsC (a ++ b) = rcsC a ++ rcsC b := by unfold rcsC; rw [List.map_append]
theorem rcsC_rev (a : List RV) : rcsC a.reverse = (rcsC a).reverse := by unfold rcsC; rw [List.map_reverse]
theorem rcsC_len (a : List RV) : (rcsC a).length = a.length := by unfold rcsC; rw [List.length_map]
theorem order_back (l : List RV) : rcsC (cleanL (rcsC l.reverse) l.reverse) = rcsC (cleanL (rcsC l) l).reverse := by
  rw [clean_c, rcsC_rev, rcsC_rev, clean_rev, clean_c]
theorem order_more (l m : List RV) (h : forgotF (rcsC m) = []) : rcsC ((cleanL (rcsC (l ++ m)) (l ++ m)).take l.length) = rcsC (cleanL (rcsC l) l) := by
  have := clean_more (rcsC l) (rcsC m) h
  rw [rcsC_len] at this
  rw [clean_c, ← this, ← rcsC_app, ← clean_c]
  unfold rcsC
  rw [List.map_take]
set_option maxHeartbeats 8000000 in
set_option maxRecDepth 100000 in
theorem walk_PrivacyOrder (A : Option Addr) (cA : Nat) (l : List RV) (B : Option Addr) (cB : Nat) (m : List RV) (w : World) (h : Rw w A l) (h2 : Rw w B m) (ht : Tab w) :
    Calls Tryz.prog 5 #[.slice A l.length cA, .slice B m.length cB] w fun e w' => e = .returned (.bool true) ∧ Below w.heap.size w w' := by
  have H1 := Lib.hid h
  have H2 := Lib.hid h2
  have HT := Lib.hid ht
  have HD := Lib.hid (head_any w ht)
  obtain ⟨n1, hn1⟩ : ∃ n1, n1 = l.length := ⟨_, rfl⟩
  obtain ⟨n2, hn2⟩ : ∃ n2, n2 = m.length := ⟨_, rfl⟩
  have N1 := Lib.hid hn1
  have N2 := Lib.hid hn2
  rw [← hn1, ← hn2]
  clear h h2 ht hn1 hn2
  go_enter Tryz.func5, Tryz.ntmps5
  go_wp2_with fail
  (with_reducible refine HD.out.mono ?_)
  rintro e u1 ⟨rfl, b1⟩
  have B1 := Lib.hid b1
  obtain ⟨X, hX⟩ : ∃ X, X = u1.alloc (.cells #[.slice A n1 cA, .slice B n2 cB] 22) := ⟨_, rfl⟩
  have BX : Hid (Below w.heap.size w X) := Lib.hid (by rw [hX]; exact b1.alloc b1.size _)
  have FW := Lib.hid (few49_any (some ⟨u1.heap.size, 0, none⟩) 2 2 [⟨A, cA, l⟩, ⟨B, cB, m⟩] X rfl (by decide) (by rw [hX, N1.out, N2.out]; exact Rd.of_row (heap_alloc_new u1 _) (List.prefix_refl _)) (fun s hs => by
    simp only [List.mem_cons, List.not_mem_nil, or_false] at hs
    rcases hs with rfl | rfl
    · exact H1.out.below BX.out
    · exact H2.out.below BX.out))
  rw [allFewR_two] at FW
  have X0 := Lib.hid hX
  clear hX b1 HD B1
  go_wp2_with fail
  rw [← X0.out]
  (with_reducible refine FW.out.mono ?_)
  rintro e u2 ⟨rfl, b2⟩
  have B2 := Lib.hid (BX.out.trans (b2.mono BX.out.size))
  clear b2 FW X0 BX
  cases hf : (fewL (rcsC l) 16 && fewL (rcsC m) 16)
  · go_wp2_with fail
    go_ret
    exact ⟨rfl, B2.out⟩
  · rw [Bool.and_eq_true] at hf
    obtain ⟨f1, f2⟩ := hf
    have R1 := Lib.hid (H1.out.rs (by decide) f1)
    have R2 := Lib.hid (H2.out.rs (by decide) f2)
    clear f1 f2 H1 H2
    rcases Nat.lt_or_ge 8 n1 with h8 | h8
    · have e8 : decide ((8 : Int) < (n1 : Int)) = true := by simp; omega
      have g8 : decide (8 < n1) = true := by simp; omega
      clear h8
      go_wp2_with fail
      go_ret
      exact ⟨rfl, B2.out⟩
    have e8 : decide ((8 : Int) < (n1 : Int)) = false := by simp; omega
    have g8 : decide (8 < n1) = false := by simp; omega
    rcases Nat.lt_or_ge 8 n2 with h9 | h9
    · have e9 : decide ((8 : Int) < (n2 : Int)) = true := by simp; omega
      have g9 : decide (8 < n2) = true := by simp; omega
      clear h9
      go_wp2_with fail
      go_ret
      exact ⟨rfl, B2.out⟩
    have e9 : decide ((8 : Int) < (n2 : Int)) = false := by simp; omega
    have g9 : decide (8 < n2) = false := by simp; omega
    have CA := Lib.hid (hclean A n1 cA l u2 N1.out (R1.out.below B2.out) (HT.out.keep B2.out))
    go_wp2_with fail
    clear e8 g8 e9 g9
    (with_reducible refine CA.out.mono ?_)
    rintro e u3 ⟨⟨A3, c3, rfl, M3, -⟩, b3⟩
    have B3 := Lib.hid (B2.out.trans (b3.mono B2.out.size))
    have M3 := Lib.hid M3
    clear b3 B2 CA
    have BK := Lib.hid (hback A n1 cA l u3 N1.out (by omega) (R1.out.below B3.out))
    go_wp2_with fail
    (with_reducible refine BK.out.mono ?_)
    rintro e u4 ⟨⟨A4, c4, rfl, M4⟩, b4⟩
    have B4 := Lib.hid (B3.out.trans (b4.mono B3.out.size))
    have M3 := Lib.hid (M3.out.below b4)
    have CB := Lib.hid (hclean A4 n1 c4 l.reverse u4 (by rw [List.length_reverse]; exact N1.out) M4 (HT.out.keep B4.out))
    clear b4 B3 BK M4
    go_wp2_with fail
    (with_reducible refine CB.out.mono ?_)
    rintro e u5 ⟨⟨A5, c5, rfl, M5, -⟩, b5⟩
    have B5 := Lib.hid (B4.out.trans (b5.mono B4.out.size))
    have M3 := Lib.hid (M3.out.below b5)
    have M5 := Lib.hid M5
    have BC := Lib.hid (hback A3 n1 c3 (cleanL (rcsC l) l) u5 (by rw [cleanL_len]; exact N1.out) (by omega) M3.out)
    clear b5 B4 CB
    go_wp2_with fail
    (with_reducible refine BC.out.mono ?_)
    rintro e u6 ⟨⟨A6, c6, rfl, M6⟩, b6⟩
    have B6 := Lib.hid (B5.out.trans (b6.mono B5.out.size))
    have M3 := Lib.hid (M3.out.below b6)
    have SA := rsameall_any A5 A6 c5 c6 _ _ n1 n1 u6 (by rw [cleanL_len, List.length_reverse]; exact N1.out) (by rw [List.length_reverse, cleanL_len]; exact N1.out) (M5.out.below b6) M6
    rw [sameAll_eq (order_back l)] at SA
    have SB := Lib.hid SA
    clear b6 B5 BC SA M5 M6
    go_wp2_with fail
    (with_reducible refine SB.out.mono ?_)
    rintro e u7 ⟨rfl, b7⟩
    have B7 := Lib.hid (B6.out.trans (b7.mono B6.out.size))
    have M3 := Lib.hid (M3.out.below b7)
    clear b7 B6 SB
    have BK := Lib.hid (hback A n1 cA l u7 N1.out (by omega) (R1.out.below B7.out))
    go_wp2_with fail
    (with_reducible refine BK.out.mono ?_)
    rintro e u8 ⟨⟨A8, c8, rfl, M8⟩, b8⟩
    have B8 := Lib.hid (B7.out.trans (b8.mono B7.out.size))
    have M3 := Lib.hid (M3.out.below b8)
    have FA := hforgot A8 n1 c8 l.reverse u8 (by rw [List.length_reverse]; exact N1.out) M8 (HT.out.keep B8.out)
    rw [rcsC_rev, forgot_rev] at FA
    have z8 := forgot_len (rcsC l)
    obtain ⟨F, hF⟩ : ∃ F, forgotF (rcsC l) = F := ⟨_, rfl⟩
    have HF := Lib.hid hF
    rw [hF] at FA z8
    obtain ⟨nf, hnf⟩ : ∃ n, n = F.length := ⟨_, rfl⟩
    have NF := Lib.hid hnf
    rw [← hnf] at FA z8
    have FB := Lib.hid FA
    clear b8 B7 BK M8 hF hnf FA
    go_wp2_with fail
    (with_reducible refine FB.out.mono ?_)
    rintro e u9 ⟨⟨A9, c9, rfl, M9⟩, b9⟩
    have B9 := Lib.hid (B8.out.trans (b9.mono B8.out.size))
    have M3 := Lib.hid (M3.out.below b9)
    have M9 := Lib.hid M9
    have FC := hforgot A n1 cA l u9 N1.out (R1.out.below B9.out) (HT.out.keep B9.out)
    rw [HF.out, ← NF.out] at FC
    have FD := Lib.hid FC
    clear b9 B8 FB FC
    go_wp2_with fail
    (with_reducible refine FD.out.mono ?_)
    rintro e u10 ⟨⟨A10, c10, rfl, M10⟩, b10⟩
    have B10 := Lib.hid (B9.out.trans (b10.mono B9.out.size))
    have M3 := Lib.hid (M3.out.below b10)
    have SM := lsame_any A9 A10 c9 c10 F F nf nf u10 NF.out NF.out (by omega) (by omega) (M9.out.below b10) M10
    rw [decide_eq_true rfl] at SM
    have SN := Lib.hid SM
    clear b10 B9 FD SM M9 M10
    go_wp2_with fail
    (with_reducible refine SN.out.mono ?_)
    rintro e u11 ⟨rfl, b11⟩
    have B11 := Lib.hid (B10.out.trans (b11.mono B10.out.size))
    have M3 := Lib.hid (M3.out.below b11)
    clear b11 B10 SN
    -- the two lists one behind the other
    have RA := R1.out.below B11.out
    have RB := R2.out.below B11.out
    have bw11 := B11.out.size
    have OM := Lib.hid (rvsL_oneC (l := m) (fun r hr => ⟨_, RB.is r hr⟩))
    have QB := Lib.hid RB
    clear RB
    go_wp2_with (first
      | (at_builtin; refine wpList_appRS rfl (.tmp 48) (.tmp 49) 22 rfl Tryz.underlying22 info_rec rfl (by decide) u11.heap.size _ 0 (rvsL []) A n1 cA (rvsL l) (rvsL_oneC (fun r hr => ⟨_, RA.is r hr⟩)) rfl rfl (own_empty21 u11 rfl _) (RA.rd.alloc _) (by rw [rvsL_len, ← N1.out]) (by simp) (by omega) (by omega) ?_; intro v12 w12 ho12 hb12 hg12)
      | (at_builtin; refine wpList_appRS rfl (.tmp 50) (.tmp 51) 22 rfl Tryz.underlying22 info_rec rfl (by decide) u11.heap.size v12 (0 + n1) (rvsL [] ++ rvsL l) B n2 cB (rvsL m) OM.out rfl rfl ho12 (QB.out.rd.below (((Below.refl _ _).alloc (Nat.le_refl _) _).trans hb12)) (by rw [rvsL_len, ← N2.out]) (Nat.le_trans (by simp) hb12.size) (by omega) (by omega) ?_; intro v13 w13 ho13 hb13 hg13; rw [Nat.zero_add] at ho13; obtain ⟨A13, c13, rfl, hr13, hc13⟩ := own_slG ho13))
    have B13 : Hid (Below w.heap.size w w13) := Lib.hid (B11.out.trans ((((Below.refl u11.heap.size u11).alloc (Nat.le_refl _) _).trans (hb12.trans hb13)).mono B11.out.size))
    have BX13 : Below u11.heap.size u11 w13 := ((Below.refl u11.heap.size u11).alloc (Nat.le_refl _) _).trans (hb12.trans hb13)
    have M13 : Hid (Rs w13 A13 (l ++ m)) := Lib.hid ⟨by rw [rvsL_app]; exact hr13, fun r hr => by
      rcases List.mem_append.1 hr with hr | hr
      · exact (RA.is r hr).below BX13
      · exact (QB.out.is r hr).below BX13, fun r hr => by
      rcases List.mem_append.1 hr with hr | hr
      · exact RA.sz r hr
      · exact QB.out.sz r hr, by rw [List.length_append, ← N1.out, ← N2.out]; omega⟩
    have N12 : Hid (n1 + n2 = (l ++ m).length) := Lib.hid (by rw [List.length_append, ← N1.out, ← N2.out])
    have M3 := Lib.hid (M3.out.below BX13)
    clear RA QB OM ho12 hb12 hg12 ho13 hb13 hg13 hr13 BX13 B11 bw11
    have FA := hforgot A n1 cA l w13 N1.out (R1.out.below B13.out) (HT.out.keep B13.out)
    rw [HF.out, ← NF.out] at FA
    have FB := Lib.hid FA
    clear FA
    (with_reducible refine FB.out.mono ?_)
    rintro e u14 ⟨⟨A14, c14, rfl, M14⟩, b14⟩
    have B14 := Lib.hid (B13.out.trans (b14.mono B13.out.size))
    have M3 := Lib.hid (M3.out.below b14)
    have M13 := Lib.hid (M13.out.below b14)
    have M14 := Lib.hid M14
    have z15 := forgot_len (rcsC m)
    obtain ⟨G, hG⟩ : ∃ G, forgotF (rcsC m) = G := ⟨_, rfl⟩
    have HG := Lib.hid hG
    have FC := hforgot B n2 cB m u14 N2.out (R2.out.below B14.out) (HT.out.keep B14.out)
    rw [hG] at FC z15
    obtain ⟨ng, hng⟩ : ∃ n, n = G.length := ⟨_, rfl⟩
    have NG := Lib.hid hng
    rw [← hng] at FC z15
    have FD := Lib.hid FC
    clear b14 B13 FB FC hG hng
    go_wp2_with fail
    (with_reducible refine FD.out.mono ?_)
    rintro e u15 ⟨⟨A15, c15, rfl, M15⟩, b15⟩
    have B15 := Lib.hid (B14.out.trans (b15.mono B14.out.size))
    have M3 := Lib.hid (M3.out.below b15)
    have M13 := Lib.hid (M13.out.below b15)
    have M14 := Lib.hid (M14.out.below b15)
    have M15 := Lib.hid M15
    have z16 := forgot_len (rcsC (l ++ m))
    obtain ⟨E, hE⟩ : ∃ E, forgotF (rcsC (l ++ m)) = E := ⟨_, rfl⟩
    have HE := Lib.hid hE
    have FC := hforgot A13 (n1 + n2) c13 (l ++ m) u15 N12.out M13.out (HT.out.keep B15.out)
    rw [hE] at FC z16
    obtain ⟨ne, hne⟩ : ∃ n, n = E.length := ⟨_, rfl⟩
    have NE := Lib.hid hne
    rw [← hne] at FC z16
    have FE := Lib.hid FC
    clear b15 B14 FD FC hE hne
    go_wp2_with fail
    (with_reducible refine FE.out.mono ?_)
    rintro e u16 ⟨⟨A16, c16, rfl, M16⟩, b16⟩
    have B16 := Lib.hid (B15.out.trans (b16.mono B15.out.size))
    have M3 := Lib.hid (M3.out.below b16)
    have M13 := Lib.hid (M13.out.below b16)
    have M14 := Lib.hid (M14.out.below b16)
    have M15 := Lib.hid (M15.out.below b16)
    have M16 := Lib.hid M16
    have TW : Hid (∀ x, inI E x = (inI F x || inI G x)) := Lib.hid (fun x => by rw [← HE.out, ← HF.out, ← HG.out, rcsC_app]; exact forgot_two _ _ x)
    clear b16 B15 FE
    go_wp2_with fail
    go_loopw [11] (fun s11 wr => ∃ i : Int, -1 ≤ i ∧ i ≤ 61 ∧ s11 = .int .i64 i ∧ OldB u16 wr) (fun i _ => (61 - intOf i).toNat)
    case atStart => exact ⟨-1, by omega, by omega, rfl, Below.refl _ _⟩
    case round =>
      obtain ⟨i, hi1, hi2, rfl, OW⟩ := hrel
      generalize wr = wo at *
      by_cases hp : i ≤ 60
      · have d0 : decide (i ≤ 60) = true := by simpa using hp
        have ki : IntKind.i64.wrap (i + 1) = i + 1 := IntWalk.i64_in _ (by omega)
        have I1 := Lib.hid (in_any A16 ne c16 E i wo NE.out (by omega) (M16.out.below OW))
        have I2 := Lib.hid (fun u (hu : OldB u16 u) => in_any A14 nf c14 F i u NF.out (by omega) (M14.out.below hu))
        have I3 := Lib.hid (fun u (hu : OldB u16 u) => in_any A15 ng c15 G i u NG.out (by omega) (M15.out.below hu))
        rw [TW.out i] at I1
        generalize inI F i = f at *
        generalize inI G i = g at *
        go_wp2_with fail
        (with_reducible refine I1.out.mono ?_)
        rintro e x1 ⟨rfl, t1⟩
        have OW := OW.then t1
        clear t1 I1
        go_wp2_with fail
        (with_reducible refine (I2.out _ OW).mono ?_)
        rintro e x2 ⟨rfl, t2⟩
        have OX := OW.then t2
        clear t2 I2 OW
        cases f
        · go_wp2_with fail
          (with_reducible refine (I3.out _ OX).mono ?_)
          rintro e x3 ⟨rfl, t3⟩
          have OY := OX.then t3
          clear t3 I3 OX
          cases g
          · go_wp2_with fail
            exact ⟨⟨i + 1, by omega, by omega, rfl, OY⟩, by simp [intOf]; omega⟩
          · go_wp2_with fail
            exact ⟨⟨i + 1, by omega, by omega, rfl, OY⟩, by simp [intOf]; omega⟩
        · go_wp2_with fail
          exact ⟨⟨i + 1, by omega, by omega, rfl, OX⟩, by simp [intOf]; omega⟩
      · have d0 : decide (i ≤ 60) = false := by simpa using hp
        have B17 := Lib.hid (B16.out.trans (Below.mono OW B16.out.size))
        have M3 := Lib.hid (M3.out.below OW)
        have M13 := Lib.hid (M13.out.below OW)
        have CM := Lib.hid (hclean A13 (n1 + n2) c13 (l ++ m) wo N12.out M13.out (HT.out.keep B17.out))
        clear hi1 hi2 hp B16 OW M14 M15 M16
        go_wp2_with fail
        clear d0
        (with_reducible refine CM.out.mono ?_)
        rintro e u18 ⟨⟨A18, c18, rfl, M18, hc18⟩, b18⟩
        have B18 := Lib.hid (B17.out.trans (b18.mono B17.out.size))
        have M3 := Lib.hid (M3.out.below b18)
        have M18 := Lib.hid M18
        clear b18 B17 CM M13
        rcases Nat.eq_zero_or_pos ng with hg0 | hg0
        · have e0 : decide ((0 : Int) < (ng : Int)) = false := by simp; omega
          have f0 : decide (0 < ng) = false := by simp; omega
          have GN : G = [] := List.eq_nil_of_length_eq_zero (by rw [← NG.out]; exact hg0)
          have SA := rsameall_any A18 A3 c18 c3 ((cleanL (rcsC (l ++ m)) (l ++ m)).take n1) (cleanL (rcsC l) l) n1 n1 u18 (by rw [List.length_take, cleanL_len, List.length_append, ← N1.out]; omega) (by rw [cleanL_len]; exact N1.out) (M18.out.take n1) M3.out
          rw [sameAll_eq (by rw [N1.out]; exact order_more l m (by rw [HG.out, GN]))] at SA
          have SB := Lib.hid SA
          clear SA hg0 GN
          have q1 : ((n1 + n2 : Nat) : Int) = (n1 : Int) + (n2 : Int) := by omega
          have q2 : (n1 : Int) ≤ (c18 : Int) := by omega
          have q3 : n1 ≤ c18 := by omega
          go_wp2_with fail
          (with_reducible refine SB.out.mono ?_)
          rintro e u19 ⟨rfl, b19⟩
          have B19 := Lib.hid (B18.out.trans (b19.mono B18.out.size))
          clear b19 SB
          go_wp2_with fail
          go_ret
          exact ⟨rfl, B19.out⟩
        · have e0 : decide ((0 : Int) < (ng : Int)) = true := by simp; omega
          have f0 : decide (0 < ng) = true := by simp; omega
          go_wp2_with fail
          go_ret
          exact ⟨rfl, B18.out⟩
end Go.Proofs.YtniklmikdkjgiaaGreatDoor
