/- WALK: the statement PrivacyRemoves (printed by gen_vh.py). -/
import Derived.Test.YtniklmikdkjgiaaGreatDoorXR
import Derived.Test.YtniklmikdkjgiaaGreatDoorYW
import Derived.Deep.DeepCutAuto
import Derived.Test.YtniklmikdkjgiaaGreatDoorWD
set_option linter.unusedSimpArgs false
set_option linter.unusedVariables false
namespace Go.Proofs.YtniklmikdkjgiaaGreatDoor
open Go.RowKit

theorem allFewR_one {a : RL} {n : Nat} : allFewR [a] n = fewL (rcsC a.l) n := by simp [allFewR]
set_option maxHeartbeats 8000000 in
set_option maxRecDepth 100000 in
theorem walk_PrivacyRemoves (A : Option Addr) (cA : Nat) (l : List RV) (w : World) (h : Rw w A l) (ht : Tab w) :
    Calls Tryz.prog 11 #[.slice A l.length cA] w fun e w' => e = .returned (.bool true) ∧ Below w.heap.size w w' := by
  have H1 := Lib.hid h
  have HT := Lib.hid ht
  have HD := Lib.hid (head_any w ht)
  obtain ⟨n1, hn1⟩ : ∃ n1, n1 = l.length := ⟨_, rfl⟩
  have N1 := Lib.hid hn1
  rw [← hn1]
  clear h ht hn1
  go_enter Tryz.func11, Tryz.ntmps11
  go_wp2_with fail
  (with_reducible refine HD.out.mono ?_)
  rintro e wd1 ⟨rfl, b1⟩
  obtain ⟨X, hX⟩ : ∃ X, X = wd1.alloc (.cells #[.slice A n1 cA] 22) := ⟨_, rfl⟩
  have BX : Hid (Below w.heap.size w X) := Lib.hid (by rw [hX]; exact b1.alloc b1.size _)
  have FW := Lib.hid (few49_any (some ⟨wd1.heap.size, 0, none⟩) 1 1 [⟨A, cA, l⟩] X rfl (by decide) (by rw [hX, N1.out]; exact Rd.of_row (heap_alloc_new wd1 _) (List.prefix_refl _)) (fun s hs => by
    simp only [List.mem_cons, List.not_mem_nil, or_false] at hs
    rcases hs with rfl
    exact H1.out.below BX.out))
  rw [allFewR_one] at FW
  have X0 := Lib.hid hX
  clear hX b1 HD
  go_wp2_with fail
  rw [← X0.out]
  (with_reducible refine FW.out.mono ?_)
  rintro e wd2 ⟨rfl, b2⟩
  have B2 := Lib.hid (BX.out.trans (b2.mono BX.out.size))
  clear b2 FW X0 BX
  cases hf : fewL (rcsC l) 16
  · go_wp2_with fail
    go_ret
    exact ⟨rfl, B2.out⟩
  have R1 := Lib.hid (H1.out.rs (by decide) hf)
  have N100 : n1 ≤ 100000 := by rw [N1.out]; exact R1.out.len
  clear hf H1
  have RA := R1.out.below B2.out
  have bw2 := B2.out.size
  go_wp2_with (at_builtin; refine wpList_appRS rfl (.tmp 20) (.tmp 21) 22 rfl Tryz.underlying22 info_rec rfl (by decide) wd2.heap.size _ 0 (rvsL []) A n1 cA (rvsL l) (rvsL_oneC (fun r hr => ⟨_, RA.is r hr⟩)) rfl rfl (own_empty21 wd2 rfl _) (RA.rd.alloc _) (by rw [rvsL_len, ← N1.out]) (by simp) (by omega) (by omega) ?_; intro v3 w3 ho3 hb3 hg3; rw [Nat.zero_add] at ho3; obtain ⟨A3, c3, rfl, hr3, hc3⟩ := own_slG ho3)
  have BX3 : Below wd2.heap.size wd2 w3 := ((Below.refl wd2.heap.size wd2).alloc (Nat.le_refl _) _).trans hb3
  have B3 : Hid (Below w.heap.size w w3) := Lib.hid (B2.out.trans (BX3.mono B2.out.size))
  have M3 : Hid (Rs w3 A3 l) := Lib.hid ⟨hr3, fun r hr => (RA.is r hr).below BX3, RA.sz, RA.len⟩
  clear RA ho3 hb3 hg3 hr3 BX3 B2 bw2
  have FA := hforgot A n1 cA l w3 N1.out (R1.out.below B3.out) (HT.out.keep B3.out)
  have z4 := forgot_len (rcsC l)
  obtain ⟨F, hF⟩ : ∃ F, forgotF (rcsC l) = F := ⟨_, rfl⟩
  have HF := Lib.hid hF
  rw [hF] at FA z4
  obtain ⟨nf, hnf⟩ : ∃ n, n = F.length := ⟨_, rfl⟩
  have NF := Lib.hid hnf
  rw [← hnf] at FA z4
  have FB := Lib.hid FA
  clear hF hnf FA
  (with_reducible refine FB.out.mono ?_)
  rintro e wd4 ⟨⟨A4, c4, rfl, M4⟩, b4⟩
  have B4 := Lib.hid (B3.out.trans (b4.mono B3.out.size))
  have M3 := Lib.hid (M3.out.below b4)
  have M4 := Lib.hid M4
  have CA := Lib.hid (hclean A n1 cA l wd4 N1.out (R1.out.below B4.out) (HT.out.keep B4.out))
  clear b4 FB B3
  go_wp2_with fail
  (with_reducible refine CA.out.mono ?_)
  rintro e wd5 ⟨⟨A5, c5, rfl, M5, -⟩, b5⟩
  have B5 := Lib.hid (B4.out.trans (b5.mono B4.out.size))
  have M3 := Lib.hid (M3.out.below b5)
  have M4 := Lib.hid (M4.out.below b5)
  have M5 := Lib.hid M5
  have SA := rsameall_any A A3 cA c3 l l n1 n1 wd5 N1.out N1.out (R1.out.below B5.out) M3.out
  rw [sameAll_eq rfl] at SA
  have SB := Lib.hid SA
  clear b5 CA B4 SA
  go_wp2_with fail
  (with_reducible refine SB.out.mono ?_)
  rintro e wd6 ⟨rfl, b6⟩
  have B6 := Lib.hid (B5.out.trans (b6.mono B5.out.size))
  have M4 := Lib.hid (M4.out.below b6)
  have M5 := Lib.hid (M5.out.below b6)
  have CB := Lib.hid (hclean A5 n1 c5 (cleanL (rcsC l) l) wd6 (by rw [cleanL_len]; exact N1.out) M5.out (HT.out.keep B6.out))
  clear b6 SB B5 M3
  go_wp2_with fail
  (with_reducible refine CB.out.mono ?_)
  rintro e wd7 ⟨⟨A7, c7, rfl, M7, -⟩, b7⟩
  have B7 := Lib.hid (B6.out.trans (b7.mono B6.out.size))
  have M4 := Lib.hid (M4.out.below b7)
  have M5 := Lib.hid (M5.out.below b7)
  have SA := rsameall_any A7 A5 c7 c5 _ _ n1 n1 wd7 (by rw [cleanL_len, cleanL_len]; exact N1.out) (by rw [cleanL_len]; exact N1.out) M7 M5.out
  rw [sameAll_eq (clean_idem l)] at SA
  have SB := Lib.hid SA
  clear b7 CB B6 SA M7
  go_wp2_with fail
  (with_reducible refine SB.out.mono ?_)
  rintro e wd8 ⟨rfl, b8⟩
  have B8 := Lib.hid (B7.out.trans (b8.mono B7.out.size))
  have MF := Lib.hid (M4.out.below b8)
  have MC := Lib.hid (M5.out.below b8)
  have ML := Lib.hid (R1.out.below B8.out)
  have TT : Hid (∀ u, OldB wd8 u → Tab u) := Lib.hid (fun u hu => HT.out.keep (B8.out.trans (Below.mono hu B8.out.size)))
  have IN : Hid (∀ x u, OldB wd8 u → Calls Tryz.prog 26 #[.slice A4 nf c4, .int .i64 x] u fun e w' => e = .returned (.bool (inI F x)) ∧ Below u.heap.size u w') := Lib.hid (fun x u hu => in_any A4 nf c4 F x u NF.out (by omega) (MF.out.below hu))
  clear b8 SB B7 M4 M5 R1 HT
  go_wp2_with fail
  go_loopw [7, 8, 9] (fun s7 s8 s9 wr => ∃ k : Nat, k ≤ n1 ∧ s7 = .int .i64 (k : Int) ∧ (∃ p, s8 = p) ∧ (∃ p, s9 = p) ∧ OldB wd8 wr) (fun i _ _ _ => n1 - (intOf i).toNat)
  case atStart => exact ⟨0, by omega, rfl, ⟨_, rfl⟩, ⟨_, rfl⟩, Below.refl _ _⟩
  case round =>
    obtain ⟨k, hk, rfl, ⟨p8, rfl⟩, ⟨p9, rfl⟩, OW⟩ := hrel
    by_cases hlt : k < n1
    · have hkl : k < l.length := by rw [← N1.out]; exact hlt
      have hkc : k < (cleanL (rcsC l) l).length := by rw [cleanL_len]; exact hkl
      have d1 : (k : Int) < (n1 : Int) := by omega
      have d2 : (0 : Int) ≤ (k : Int) := by omega
      obtain ⟨b, off, rfl, hb, hc⟩ := rvs_at ML.out.rd hkl
      obtain ⟨b', off', rfl, hb', hc'⟩ := rvs_at MC.out.rd hkc
      have HI := ML.out.is l[k] (List.getElem_mem hkl)
      have HS := ML.out.sz l[k] (List.getElem_mem hkl)
      have HI' := MC.out.is _ (List.getElem_mem hkc)
      have HS' := MC.out.sz _ (List.getElem_mem hkc)
      have RQ : Hid (reqB l[k].c = true → inI F l[k].author = true) := Lib.hid (fun hq => by rw [← HF.out]; exact req_in (c := l[k].c) (List.mem_map.2 ⟨_, List.getElem_mem hkl, rfl⟩) hq)
      have FG : Hid (inI F l[k].author = flagOf (rcsC l) l[k].author) := Lib.hid (by rw [← HF.out]; exact flag_in _ _)
      rw [cleanL_at _ l hkl hkc] at hc' HI' HS'
      generalize l[k] = r at *
      have QC : Hid (inI F r.author = true → cleanR (rcsC l) r = bareR r) := Lib.hid (fun hq => by rw [FG.out] at hq; unfold cleanR; rw [if_pos hq])
      have QD : Hid (inI F r.author = false → cleanR (rcsC l) r = r) := Lib.hid (fun hq => by rw [FG.out] at hq; unfold cleanR; rw [if_neg (by rw [hq]; decide)])
      have QI : Hid (validR r.c = true → idC (cleanR (rcsC l) r).c = idC r.c) := Lib.hid (fun hq => by rw [cleanR_c]; exact idC_clean _ hq)
      generalize cleanR (rcsC l) r = q at *
      have LA : Hid (∀ u, OldB wd8 u → u.rangeAt b (off + k * 21) (rvL r)) := Lib.hid (rangeAt_old hb (fun j v hj => hc j v hj))
      have LC : Hid (∀ u, OldB wd8 u → u.rangeAt b' (off' + k * 21) (rvL q)) := Lib.hid (rangeAt_old hb' (fun j v hj => hc' j v hj))
      have a0 : ∀ u, OldB wd8 u → u.cell? ⟨b, off + k * 21, none⟩ = some (.int .i64 r.kind) := fun u hu => LA.out u hu 0 _ rfl
      have a1 : ∀ u, OldB wd8 u → u.cell? ⟨b, off + k * 21 + 1, none⟩ = some (.int .i64 r.author) := fun u hu => LA.out u hu 1 _ rfl
      have HR := Lib.hid (And.intro HI HS)
      have HQ := Lib.hid (And.intro HI' HS')
      have ONE := Lib.hid (rvL_one r ⟨_, HI⟩)
      clear hc hc' HI HS HI' HS' FG
      obtain ⟨X, hX⟩ : ∃ X, X = wr.alloc (.cells (rvL r).toArray 56) := ⟨_, rfl⟩
      obtain ⟨bx, hbx⟩ : ∃ bx, wr.heap.size = bx := ⟨_, rfl⟩
      have OX : OldB wd8 X := by rw [hX]; exact OW.alloc _
      have XX : Hid (X.heap[bx]? = some (.cells (rvL r).toArray 56 (0, 0))) := Lib.hid (by rw [hX, ← hbx]; exact heap_alloc_new wr _)
      have hx8 : wd8.heap.size ≤ bx := by rw [← hbx]; exact Below.size OW
      have X1 := Lib.hid hbx
      have X0 := Lib.hid hX
      have FS := Lib.hid (fun z (hz : z.length = 21) => setCells_fresh wr z (rvL r) hz rfl ONE.out)
      clear hX hbx
      go_wp2_with (first
        | (refine wpList_load_mid rfl 56 (.tmp 53) rfl b (off + k * 21) rfl (rvL r) _ (LA.out _ OW) Tryz.underlying56 rfl (rvL_szL _) ?_)
        | (refine wpList_store_mid rfl 56 (.tmp 8) (.tmp 54) rfl wr.heap.size 0 (rvL r).toArray rfl rfl (there_of_row (heap_alloc_new wr _) (Nat.le_refl 21)) (rvL_szA _) ONE.out ?_; rw [List.toList_toArray, FS.out _ rfl, ← X0.out, X1.out]))
      (with_reducible refine (IN.out r.author _ OX).mono ?_)
      rintro e wd1 ⟨rfl, t1⟩
      have BU : Hid (wd1.heap[bx]? = some (.cells (rvL r).toArray 56 (0, 0))) := Lib.hid ((t1.block bx (lt_of_block XX.out)).trans XX.out)
      have O1 : OldB wd8 wd1 := OX.then t1
      clear t1 X0 X1 FS XX OX OW
      obtain ⟨f, hf⟩ : ∃ f, inI F r.author = f := ⟨_, rfl⟩
      rw [hf] at QC QD RQ
      have GF := Lib.hid hf
      rw [hf]
      clear hf
      go_upto_if 61 with fail
      go_cut [8, 61] (fun s8 s61 wx => s8 = .pointer (some ⟨bx, 0, none⟩) ∧ s61 = .bool f ∧ Hid (wx.heap[bx]? = some (.cells (rvL q).toArray 56 (0, 0))) ∧ Hid (OldB wd8 wx))
      case first =>
        cases f
        · have e1 := QD.out rfl
          go_wp2_with fail
          go_meet
          case rel => exact ⟨rfl, rfl, Lib.hid (by rw [e1]; exact BU.out), Lib.hid O1⟩
        · have e1 := QC.out rfl
          go_wp2_with (refine wpList_store_mid rfl 54 (.tmp 63) (.tmp 62) rfl bx 14 zPr rfl rfl (bare_there BU.out) (by kernel_rfl) (by simp [zPr, Value.oneCell']) ?_)
          go_meet
          case rel => exact ⟨rfl, rfl, Lib.hid (by rw [e1]; exact bare_row BU.out), Lib.hid (below_setCells (w' := wd1) bx zPr.toList 14 wd1 O1 hx8)⟩
      case rest =>
        obtain ⟨rfl, rfl, HB, OCH⟩ := hcut
        have OC := OCH.out
        clear OCH BU O1
        go_upto_region 15 with fail
        go_cut [90] (fun s90 wx => s90 = .bool false ∧ Hid (OldB wd8 wx))
        case first =>
          have RB : Hid (∀ u, OldB wc u → u.rangeAt bx 0 (rvL q)) := Lib.hid (fun u hu => by have := range_of_row ((hu.block bx (lt_of_block HB.out)).trans HB.out); simpa using this)
          have ES := Lib.hid (fun u (hu : OldB wc u) => rsamer_any q q u (HQ.out.1.below (OC.then hu)) (HQ.out.1.below (OC.then hu)) HQ.out.2 HQ.out.2)
          rw [sameR_refl] at ES
          have EV := Lib.hid (fun u (hu : OldB wc u) => rvalid_any r u (HR.out.1.below (OC.then hu)) HR.out.2 (TT.out u (OC.then hu)))
          have EI := Lib.hid (fun u (hu : OldB wc u) => id_any r u (HR.out.1.below (OC.then hu)) HR.out.2 (TT.out u (OC.then hu)))
          have EJ := Lib.hid (fun u (hu : OldB wc u) => id_any q u (HQ.out.1.below (OC.then hu)) HQ.out.2 (TT.out u (OC.then hu)))
          unfold rvA at EV EI EJ
          (refine wp_region_noPanic ?_; refine wp_region_held_drew (S := (OldB wc)) (by kernel_rfl) ?_ (fun hHeld => ?_); exact Below.drew (Below.refl _ _))
          (refine tkW 0 ?_; try simp only [gmS])
          (refine tkW 1 ?_; try simp only [gmS])
          (refine tkW 2 ?_; try simp only [gmS])
          (refine ldW 3 56 (.tmp 66) b' (off' + k * 21) (rvL q) _ (fun v hv => LC.out v (OC.then hv)) Tryz.underlying56 (rvL_szL _) ?_; try simp only [gmS])
          (refine ldW 4 56 (.tmp 8) bx 0 (rvL q) _ RB.out Tryz.underlying56 (rvL_szL _) ?_; try simp only [gmS])
          refine rdR 5 (fun K hK => ?_)
          go_simp
          (with_reducible refine (ES.out _ hHeld).mono ?_)
          rintro e v1 ⟨rfl, t1⟩
          (refine hK.out _ _ (OldB.then hHeld t1) (fun hHeld2 => ?_); clear hK K hHeld; have hHeld := hHeld2; clear hHeld2; try simp only [gmS])
          (refine tkW 6 ?_; try simp only [gmS])
          (refine tkW 7 ?_; try simp only [gmS])
          (refine tkW 8 ?_; try simp only [gmS])
          (refine tkW 9 ?_; try simp only [gmS])
          (refine tkW 10 ?_; try simp only [gmS])
          (refine ldW 11 56 (.tmp 74) b (off + k * 21) (rvL r) _ (fun v hv => LA.out v (OC.then hv)) Tryz.underlying56 (rvL_szL _) ?_; try simp only [gmS])
          refine rdR 12 (fun K hK => ?_)
          go_simp
          (with_reducible refine (EV.out _ hHeld).mono ?_)
          rintro e v2 ⟨rfl, t2⟩
          cases hv : validR r.c
          · (refine hK.out _ _ (OldB.then hHeld t2) (fun hHeld2 => ?_); clear hK K hHeld; have hHeld := hHeld2; clear hHeld2; try simp only [gmS])
            (refine tkW 13 ?_; try simp only [gmS])
            (refine skW 14 ?_; try simp only [gmS])
            (refine skW 15 ?_; try simp only [gmS])
            (refine skW 16 ?_; try simp only [gmS])
            (refine skW 17 ?_; try simp only [gmS])
            (refine skW 18 ?_; try simp only [gmS])
            (refine skW 19 ?_; try simp only [gmS])
            (refine skW 20 ?_; try simp only [gmS])
            (refine skW 21 ?_; try simp only [gmS])
            (refine skW 22 ?_; try simp only [gmS])
            (refine skW 23 ?_; try simp only [gmS])
            (refine skW 24 ?_; try simp only [gmS])
            (refine tkW 25 ?_; try simp only [gmS])
            (refine tkW 26 ?_; try simp only [gmS])
            have OZ := OC.then hHeld
            (refine wpAnyH_done (by kernel_rfl) ?_ _; refine NoPanic.normal ?_)
            go_wp2_with fail
            go_meet
            case rel => exact ⟨rfl, Lib.hid OZ⟩
          · have EK := QI.out hv
            rw [EK] at EJ
            generalize mkB (idC r.c) = y at *
            (refine hK.out _ _ (OldB.then hHeld t2) (fun hHeld2 => ?_); clear hK K hHeld; have hHeld := hHeld2; clear hHeld2; try simp only [gmS])
            (refine tkW 13 ?_; try simp only [gmS])
            (refine tkW 14 ?_; try simp only [gmS])
            (refine tkW 15 ?_; try simp only [gmS])
            (refine tkW 16 ?_; try simp only [gmS])
            (refine ldW 17 56 (.tmp 80) b' (off' + k * 21) (rvL q) _ (fun v hv => LC.out v (OC.then hv)) Tryz.underlying56 (rvL_szL _) ?_; try simp only [gmS])
            (refine tkW 19 ?_; try simp only [gmS])
            (refine tkW 20 ?_; try simp only [gmS])
            (refine tkW 21 ?_; try simp only [gmS])
            (refine ldW 22 56 (.tmp 85) b (off + k * 21) (rvL r) _ (fun v hv => LA.out v (OC.then hv)) Tryz.underlying56 (rvL_szL _) ?_; try simp only [gmS])
            refine rdR 18 (fun K hK => ?_)
            go_simp
            (with_reducible refine (EJ.out _ hHeld).mono ?_)
            rintro e v3 ⟨rfl, t3⟩
            (refine hK.out _ _ (OldB.then hHeld t3) (fun hHeld2 => ?_); clear hK K hHeld; have hHeld := hHeld2; clear hHeld2; try simp only [gmS])
            refine rdR 23 (fun K hK => ?_)
            go_simp
            (with_reducible refine (EI.out _ hHeld).mono ?_)
            rintro e v4 ⟨rfl, t4⟩
            (refine hK.out _ _ (OldB.then hHeld t4) (fun hHeld2 => ?_); clear hK K hHeld; have hHeld := hHeld2; clear hHeld2; try simp only [gmS])
            (refine tkW 24 ?_; try simp only [gmS])
            (refine tkW 25 ?_; try simp only [gmS])
            (refine tkW 26 ?_; try simp only [gmS])
            have OZ := OC.then hHeld
            (refine wpAnyH_done (by kernel_rfl) ?_ _; refine NoPanic.normal ?_)
            go_wp2_with fail
            go_meet
            case rel => exact ⟨rfl, Lib.hid OZ⟩
        case rest =>
          obtain ⟨rfl, OWH⟩ := hcut
          have OW2 := OWH.out
          clear OWH HB OC
          obtain ⟨Y, hY⟩ : ∃ Y, Y = wc.alloc (.cells (rvL r).toArray 56) := ⟨_, rfl⟩
          obtain ⟨by2, hby⟩ : ∃ by2, wc.heap.size = by2 := ⟨_, rfl⟩
          obtain ⟨Z, hZ⟩ : ∃ Z, Z = Y.setCells by2 14 zPr.toList := ⟨_, rfl⟩
          have hy8 : wd8.heap.size ≤ by2 := by rw [← hby]; exact Below.size OW2
          have OY : OldB wd8 Y := by rw [hY]; exact OW2.alloc _
          have YY : Hid (Y.heap[by2]? = some (.cells (rvL r).toArray 56 (0, 0))) := Lib.hid (by rw [hY, ← hby]; exact heap_alloc_new wc _)
          have OZ : OldB wd8 Z := by rw [hZ]; exact below_setCells (w' := Y) by2 zPr.toList 14 Y OY hy8
          have ZZ : Hid (Z.heap[by2]? = some (.cells (rvL (bareR r)).toArray 56 (0, 0))) := Lib.hid (by rw [hZ]; exact bare_row YY.out)
          have RZ : Hid (Z.rangeAt by2 0 (rvL (bareR r))) := Lib.hid (by have := range_of_row ZZ.out; simpa using this)
          have Y1 := Lib.hid hby
          have Y0 := Lib.hid hY
          have Z0 := Lib.hid hZ
          have FT := Lib.hid (fun z (hz : z.length = 21) => setCells_fresh wc z (rvL r) hz rfl ONE.out)
          have EV := Lib.hid (fun u (hu : OldB wd8 u) => rvalid_any (bareR r) u (bareR_is (HR.out.1.below hu)) (bareR_sz HR.out.2) (TT.out u hu))
          rw [bareR_c] at EV
          unfold rvA at EV
          have RQ2 : Hid (decide (r.kind = 5) = true → validR (bareC r.c) = true → f = true) := Lib.hid (fun h5 hv => RQ.out (by unfold reqB; rw [show r.c.kind = r.kind from rfl, h5, hv]; rfl))
          generalize validR (bareC r.c) = v at *
          clear hY hby hZ RQ QC QD QI
          by_cases h5 : r.kind = 5
          · have e5 : (r.kind == 5) = true := by rw [h5]; rfl
            have RQ3 : Hid (v = true → f = true) := Lib.hid (RQ2.out (by rw [h5]; rfl))
            clear h5 RQ2
            go_wp2_with (first
              | (refine wpList_load_mid rfl 56 (.tmp 93) rfl b (off + k * 21) rfl (rvL r) _ (LA.out _ OW2) Tryz.underlying56 rfl (rvL_szL _) ?_)
              | (refine wpList_store_mid rfl 56 (.tmp 9) (.tmp 94) rfl wc.heap.size 0 (rvL r).toArray rfl rfl (there_of_row (heap_alloc_new wc _) (Nat.le_refl 21)) (rvL_szA _) ONE.out ?_; rw [List.toList_toArray, FT.out _ rfl, ← Y0.out, Y1.out])
              | (refine wpList_store_mid rfl 54 (.tmp 96) (.tmp 95) rfl by2 14 zPr rfl rfl (bare_there YY.out) (by kernel_rfl) (by simp [zPr, Value.oneCell']) ?_; rw [← Z0.out])
              | (refine wpList_load_midG (by simp [Region.wanted, yielded]; done) 56 (.tmp 9) rfl by2 0 rfl (rvL (bareR r)) _ RZ.out Tryz.underlying56 rfl (rvL_szL _) ?_))
            (with_reducible refine (EV.out _ OZ).mono ?_)
            rintro e x1 ⟨rfl, t1⟩
            have O3 := OZ.then t1
            clear t1 OZ OY YY ZZ RZ Y1 Y0 Z0 FT
            cases v
            · go_wp2_with fail
              exact ⟨⟨k + 1, by omega, by go_num, ⟨_, rfl⟩, ⟨_, rfl⟩, O3⟩, by simp [intOf]; omega⟩
            · have ft := RQ3.out rfl
              subst ft
              have IR := IN.out r.author
              rw [GF.out] at IR
              have IR := Lib.hid IR
              go_wp2_with fail
              (with_reducible refine (IR.out _ O3).mono ?_)
              rintro e x2 ⟨rfl, t2⟩
              have O4 := O3.then t2
              clear t2
              go_wp2_with fail
              exact ⟨⟨k + 1, by omega, by go_num, ⟨_, rfl⟩, ⟨_, rfl⟩, O4⟩, by simp [intOf]; omega⟩
          · have e5 : (r.kind == 5) = false := by simpa using h5
            clear h5 RQ2
            go_wp2_with (first
              | (refine wpList_load_mid rfl 56 (.tmp 93) rfl b (off + k * 21) rfl (rvL r) _ (LA.out _ OW2) Tryz.underlying56 rfl (rvL_szL _) ?_)
              | (refine wpList_store_mid rfl 56 (.tmp 9) (.tmp 94) rfl wc.heap.size 0 (rvL r).toArray rfl rfl (there_of_row (heap_alloc_new wc _) (Nat.le_refl 21)) (rvL_szA _) ONE.out ?_; rw [List.toList_toArray, FT.out _ rfl, ← Y0.out, Y1.out])
              | (refine wpList_store_mid rfl 54 (.tmp 96) (.tmp 95) rfl by2 14 zPr rfl rfl (bare_there YY.out) (by kernel_rfl) (by simp [zPr, Value.oneCell']) ?_; rw [← Z0.out]))
            exact ⟨⟨k + 1, by omega, by go_num, ⟨_, rfl⟩, ⟨_, rfl⟩, OZ⟩, by simp [intOf]; omega⟩
    · have d1 : ¬ (k : Int) < (n1 : Int) := by omega
      clear hk hlt
      generalize wr = wo at *
      have LN : Hid ((rcsC l).length = n1) := Lib.hid (by unfold rcsC; rw [List.length_map]; exact N1.out.symm)
      go_wp2_with fail
      clear d1
      go_loopw [10, 11, 12, 13] (fun s10 s11 s12 s13 wr => ∃ j : Nat, j ≤ nf ∧ s10 = .int .i64 (j : Int) ∧ (∃ p, s11 = p) ∧ (∃ p, s12 = p) ∧ (∃ p, s13 = p) ∧ OldB wd8 wr) (fun i _ _ _ _ => nf - (intOf i).toNat)
      case atStart => exact ⟨0, by omega, rfl, ⟨_, rfl⟩, ⟨_, rfl⟩, ⟨_, rfl⟩, OW⟩
      case round =>
        clear OW
        obtain ⟨j, hj, rfl, ⟨p11, rfl⟩, ⟨p12, rfl⟩, ⟨p13, rfl⟩, OW⟩ := hrel
        by_cases hlt : j < nf
        · have hjf : j < F.length := by rw [← NF.out]; exact hlt
          have d1 : (j : Int) < (nf : Int) := by omega
          have d2 : (0 : Int) ≤ (j : Int) := by omega
          obtain ⟨b', off', rfl, hb', c0⟩ := ints_at MF.out hjf
          have f0 : ∀ u, OldB wd8 u → u.cell? ⟨b', off' + j, none⟩ = some (.int .i64 F[j]) := fun u hu => (World.cell?_of_block (w := wd8) (hu.block b' hb')).trans c0
          have SK : Hid ((rcsC l).any (seekB F[j]) = true) := Lib.hid (seek_all (by rw [HF.out]; exact List.getElem_mem hjf))
          have PV : Hid (∀ j', j = j' + 1 → ∃ y : Int, y < F[j] ∧ ∀ u, OldB wd8 u → u.cell? ⟨b', off' + j', none⟩ = some (.int .i64 y)) := Lib.hid (fun j' hj' => by
            have h1 : j' < F.length := by omega
            obtain ⟨b2, off2, e2, hb2, c2⟩ := ints_at MF.out h1
            cases e2
            refine ⟨F[j'], ?_, fun u hu => (World.cell?_of_block (w := wd8) (hu.block b' hb')).trans c2⟩
            subst hj'
            have := forgot_inc (rcsC l) (j := j') (by rw [HF.out]; exact hjf)
            simp only [HF.out] at this
            exact this)
          clear c0
          generalize F[j] = x at *
          go_wp2_with fail
          go_loopw [11, 12, 13] (fun s11 s12 s13 wr => ∃ m : Nat, m ≤ n1 ∧ s12 = .int .i64 (m : Int) ∧ s11 = .bool (((rcsC l).take m).any (seekB x)) ∧ (∃ p, s13 = p) ∧ OldB wd8 wr) (fun _ i _ _ => n1 - (intOf i).toNat)
          case atStart => exact ⟨0, by omega, rfl, rfl, ⟨_, rfl⟩, OW⟩
          case round =>
            clear OW
            obtain ⟨m, hm, rfl, rfl, ⟨p13, rfl⟩, OW⟩ := hrel
            by_cases hlm : m < n1
            · have hml : m < l.length := by rw [← N1.out]; exact hlm
              have hmc : m < (rcsC l).length := by rw [LN.out]; exact hlm
              have d3 : (m : Int) < (n1 : Int) := by omega
              have d4 : (0 : Int) ≤ (m : Int) := by omega
              obtain ⟨b, off, rfl, hb, hc⟩ := rvs_at ML.out.rd hml
              have HI := ML.out.is l[m] (List.getElem_mem hml)
              have HS := ML.out.sz l[m] (List.getElem_mem hml)
              have ST : Hid (((rcsC l).take (m + 1)).any (seekB x) = (((rcsC l).take m).any (seekB x) || seekB x l[m].c)) := Lib.hid (by (have e : (rcsC l)[m] = l[m].c := by simp [rcsC]); rw [any_take _ _ hmc, e])
              generalize ((rcsC l).take m).any (seekB x) = g at *
              generalize l[m] = r at *
              have SB : Hid (seekB x r.c = (decide (r.author = x) && (decide (r.kind = 5) && validR (bareC r.c)))) := Lib.hid rfl
              have LA : Hid (∀ u, OldB wd8 u → u.rangeAt b (off + m * 21) (rvL r)) := Lib.hid (rangeAt_old hb (fun j v hj => hc j v hj))
              have a0 : ∀ u, OldB wd8 u → u.cell? ⟨b, off + m * 21, none⟩ = some (.int .i64 r.kind) := fun u hu => LA.out u hu 0 _ rfl
              have a1 : ∀ u, OldB wd8 u → u.cell? ⟨b, off + m * 21 + 1, none⟩ = some (.int .i64 r.author) := fun u hu => LA.out u hu 1 _ rfl
              have EV := Lib.hid (fun u (hu : OldB wd8 u) => rvalid_any (bareR r) u (bareR_is (HI.below hu)) (bareR_sz HS) (TT.out u hu))
              rw [bareR_c] at EV
              unfold rvA at EV
              have ONE := Lib.hid (rvL_one r ⟨_, HI⟩)
              obtain ⟨Y, hY⟩ : ∃ Y, Y = wr.alloc (.cells (rvL r).toArray 56) := ⟨_, rfl⟩
              obtain ⟨by2, hby⟩ : ∃ by2, wr.heap.size = by2 := ⟨_, rfl⟩
              obtain ⟨Z, hZ⟩ : ∃ Z, Z = Y.setCells by2 14 zPr.toList := ⟨_, rfl⟩
              have hy8 : wd8.heap.size ≤ by2 := by rw [← hby]; exact Below.size OW
              have OY : OldB wd8 Y := by rw [hY]; exact OW.alloc _
              have YY : Hid (Y.heap[by2]? = some (.cells (rvL r).toArray 56 (0, 0))) := Lib.hid (by rw [hY, ← hby]; exact heap_alloc_new wr _)
              have OZ : OldB wd8 Z := by rw [hZ]; exact below_setCells (w' := Y) by2 zPr.toList 14 Y OY hy8
              have ZZ : Hid (Z.heap[by2]? = some (.cells (rvL (bareR r)).toArray 56 (0, 0))) := Lib.hid (by rw [hZ]; exact bare_row YY.out)
              have RZ : Hid (∀ u, OldB Z u → u.rangeAt by2 0 (rvL (bareR r))) := Lib.hid (fun u hu => by have := range_of_row ((hu.block by2 (lt_of_block ZZ.out)).trans ZZ.out); simpa using this)
              have Y1 := Lib.hid hby
              have Y0 := Lib.hid hY
              have Z0 := Lib.hid hZ
              have FT := Lib.hid (fun z (hz : z.length = 21) => setCells_fresh wr z (rvL r) hz rfl ONE.out)
              generalize validR (bareC r.c) = v at *
              clear hY hby hZ hc HI HS SK PV
              go_upto_region 30 with (first
                | (refine wpList_load_mid rfl 56 (.tmp 131) rfl b (off + m * 21) rfl (rvL r) _ (LA.out _ OW) Tryz.underlying56 rfl (rvL_szL _) ?_)
                | (refine wpList_store_mid rfl 56 (.tmp 13) (.tmp 132) rfl wr.heap.size 0 (rvL r).toArray rfl rfl (there_of_row (heap_alloc_new wr _) (Nat.le_refl 21)) (rvL_szA _) ONE.out ?_; rw [List.toList_toArray, FT.out _ rfl, ← Y0.out, Y1.out])
                | (refine wpList_store_mid rfl 54 (.tmp 134) (.tmp 133) rfl by2 14 zPr rfl rfl (bare_there YY.out) (by kernel_rfl) (by simp [zPr, Value.oneCell']) ?_; rw [← Z0.out]))
              have LB : ∀ u, OldB Z u → OldB wd8 u := fun u hu => OZ.then hu
              have A0 : ∀ u, OldB Z u → u.cell? ⟨b, off + m * 21, none⟩ = some (.int .i64 r.kind) := fun u hu => a0 u (LB u hu)
              have A1 : ∀ u, OldB Z u → u.cell? ⟨b, off + m * 21 + 1, none⟩ = some (.int .i64 r.author) := fun u hu => a1 u (LB u hu)
              have F0 : ∀ u, OldB Z u → u.cell? ⟨b', off' + j, none⟩ = some (.int .i64 x) := fun u hu => f0 u (LB u hu)
              have OZH := Lib.hid OZ
              clear a0 a1 f0 OY OZ OW YY Y1 Y0 Z0 FT
              go_wp2_with fail
              (refine wp_region_noPanic ?_; refine wp_region_held_drew (S := (OldB Z)) (by kernel_rfl) ?_ (fun hHeld => ?_); exact Below.drew (Below.refl _ _))
              cases g
              · have G1 : Hid ((false || seekB x r.c) = (decide (r.author = x) && (decide (r.kind = 5) && v))) := Lib.hid (by rw [SB.out, Bool.false_or])
                (refine tkW 0 ?_; try simp only [gmS])
                (refine tkW 1 ?_; try simp only [gmS])
                (refine tkW 2 ?_; try simp only [gmS])
                (refine tkW 3 ?_; try simp only [gmS])
                (refine tkW 4 ?_; try simp only [gmS])
                (refine tkW 5 ?_; try simp only [gmS])
                (refine tkW 6 ?_; try simp only [gmS])
                (refine tkW 7 ?_; try simp only [gmS])
                (refine tkW 8 ?_; try simp only [gmS])
                (refine tkW 9 ?_; try simp only [gmS])
                (refine tkW 10 ?_; try simp only [gmS])
                by_cases hx : r.author = x
                · have e1 : (r.author == x) = true := by rw [hx]; simp
                  have G2 : Hid ((false || seekB x r.c) = (decide (r.kind = 5) && v)) := Lib.hid (by rw [G1.out, decide_eq_true hx, Bool.true_and])
                  clear hx G1
                  (refine tkW 11 ?_; try simp only [gmS])
                  (refine tkW 12 ?_; try simp only [gmS])
                  (refine tkW 13 ?_; try simp only [gmS])
                  (refine tkW 14 ?_; try simp only [gmS])
                  (refine tkW 15 ?_; try simp only [gmS])
                  (refine tkW 16 ?_; try simp only [gmS])
                  (refine tkW 17 ?_; try simp only [gmS])
                  by_cases h5 : r.kind = 5
                  · have e5 : (r.kind == 5) = true := by rw [h5]; rfl
                    have G3 : Hid ((false || seekB x r.c) = v) := Lib.hid (by rw [G2.out, decide_eq_true h5, Bool.true_and])
                    clear h5 G2
                    (refine tkW 18 ?_; try simp only [gmS])
                    (refine tkW 19 ?_; try simp only [gmS])
                    (refine tkW 20 ?_; try simp only [gmS])
                    (refine ldW 21 56 (.tmp 13) by2 0 (rvL (bareR r)) _ RZ.out Tryz.underlying56 (rvL_szL _) ?_; try simp only [gmS])
                    refine rdR 22 (fun K hK => ?_)
                    go_simp
                    (with_reducible refine (EV.out _ (LB _ hHeld)).mono ?_)
                    rintro e x1 ⟨rfl, t1⟩
                    (refine hK.out _ _ (OldB.then hHeld t1) (fun hHeld2 => ?_); clear hK K hHeld; have hHeld := hHeld2; clear hHeld2; try simp only [gmS])
                    (refine tkW 23 ?_; try simp only [gmS])
                    (refine tkW 24 ?_; try simp only [gmS])
                    (refine tkW 25 ?_; try simp only [gmS])
                    have OQ := LB _ hHeld
                    (refine wpAnyH_done (by kernel_rfl) ?_ _; refine NoPanic.normal ?_)
                    go_wp2_with fail
                    exact ⟨⟨m + 1, by omega, by go_num, by rw [ST.out, G3.out], ⟨_, rfl⟩, OQ⟩, by simp [intOf]; omega⟩
                  · have e5 : (r.kind == 5) = false := by simpa using h5
                    have G3 : Hid ((false || seekB x r.c) = false) := Lib.hid (by rw [G2.out, decide_eq_false h5, Bool.false_and])
                    clear h5 G2
                    (refine tkW 18 ?_; try simp only [gmS])
                    (refine tkW 19 ?_; try simp only [gmS])
                    (refine tkW 20 ?_; try simp only [gmS])
                    (refine skW 21 ?_; try simp only [gmS])
                    (refine skW 22 ?_; try simp only [gmS])
                    (refine tkW 23 ?_; try simp only [gmS])
                    (refine tkW 24 ?_; try simp only [gmS])
                    (refine tkW 25 ?_; try simp only [gmS])
                    have OQ := LB _ hHeld
                    (refine wpAnyH_done (by kernel_rfl) ?_ _; refine NoPanic.normal ?_)
                    go_wp2_with fail
                    exact ⟨⟨m + 1, by omega, by go_num, by rw [ST.out, G3.out], ⟨_, rfl⟩, OQ⟩, by simp [intOf]; omega⟩
                · have e1 : (r.author == x) = false := by simpa using hx
                  have G2 : Hid ((false || seekB x r.c) = false) := Lib.hid (by rw [G1.out, decide_eq_false hx, Bool.false_and])
                  clear hx G1
                  (refine tkW 11 ?_; try simp only [gmS])
                  (refine tkW 12 ?_; try simp only [gmS])
                  (refine skW 13 ?_; try simp only [gmS])
                  (refine skW 14 ?_; try simp only [gmS])
                  (refine skW 15 ?_; try simp only [gmS])
                  (refine skW 16 ?_; try simp only [gmS])
                  (refine skW 17 ?_; try simp only [gmS])
                  (refine skW 18 ?_; try simp only [gmS])
                  (refine tkW 19 ?_; try simp only [gmS])
                  (refine tkW 20 ?_; try simp only [gmS])
                  (refine skW 21 ?_; try simp only [gmS])
                  (refine skW 22 ?_; try simp only [gmS])
                  (refine tkW 23 ?_; try simp only [gmS])
                  (refine tkW 24 ?_; try simp only [gmS])
                  (refine tkW 25 ?_; try simp only [gmS])
                  have OQ := LB _ hHeld
                  (refine wpAnyH_done (by kernel_rfl) ?_ _; refine NoPanic.normal ?_)
                  go_wp2_with fail
                  exact ⟨⟨m + 1, by omega, by go_num, by rw [ST.out, G2.out], ⟨_, rfl⟩, OQ⟩, by simp [intOf]; omega⟩
              · (refine tkW 0 ?_; try simp only [gmS])
                (refine tkW 1 ?_; try simp only [gmS])
                (refine skW 2 ?_; try simp only [gmS])
                (refine skW 3 ?_; try simp only [gmS])
                (refine skW 4 ?_; try simp only [gmS])
                (refine skW 5 ?_; try simp only [gmS])
                (refine skW 6 ?_; try simp only [gmS])
                (refine skW 7 ?_; try simp only [gmS])
                (refine skW 8 ?_; try simp only [gmS])
                (refine skW 9 ?_; try simp only [gmS])
                (refine skW 10 ?_; try simp only [gmS])
                (refine skW 11 ?_; try simp only [gmS])
                (refine skW 12 ?_; try simp only [gmS])
                (refine skW 13 ?_; try simp only [gmS])
                (refine skW 14 ?_; try simp only [gmS])
                (refine skW 15 ?_; try simp only [gmS])
                (refine skW 16 ?_; try simp only [gmS])
                (refine skW 17 ?_; try simp only [gmS])
                (refine skW 18 ?_; try simp only [gmS])
                (refine skW 19 ?_; try simp only [gmS])
                (refine skW 20 ?_; try simp only [gmS])
                (refine skW 21 ?_; try simp only [gmS])
                (refine skW 22 ?_; try simp only [gmS])
                (refine skW 23 ?_; try simp only [gmS])
                (refine tkW 24 ?_; try simp only [gmS])
                (refine tkW 25 ?_; try simp only [gmS])
                have OQ := LB _ hHeld
                (refine wpAnyH_done (by kernel_rfl) ?_ _; refine NoPanic.normal ?_)
                go_wp2_with fail
                exact ⟨⟨m + 1, by omega, by go_num, by rw [ST.out]; rfl, ⟨_, rfl⟩, OQ⟩, by simp [intOf]; omega⟩
            · have d3 : ¬ (m : Int) < (n1 : Int) := by omega
              have TK : Hid (((rcsC l).take m).any (seekB x) = true) := Lib.hid (by rw [List.take_of_length_le (by rw [LN.out]; omega)]; exact SK.out)
              rw [TK.out]
              clear hm hlm
              go_upto_region 31 with fail
              clear d3
              have O31 := Lib.hid OW
              go_cut [177] (fun s177 wx => s177 = .bool false ∧ Hid (OldB wd8 wx))
              case first =>
                (refine wp_region_noPanic ?_; refine wp_region_held_drew (S := (OldB wr)) (by kernel_rfl) ?_ (fun hHeld => ?_); exact Below.drew (Below.refl _ _))
                cases j with
                | zero =>
                  (refine tkW 0 ?_; try simp only [gmS])
                  (refine tkW 1 ?_; try simp only [gmS])
                  (refine tkW 2 ?_; try simp only [gmS])
                  (refine tkW 3 ?_; try simp only [gmS])
                  (refine tkW 4 ?_; try simp only [gmS])
                  (refine tkW 5 ?_; try simp only [gmS])
                  (refine skW 6 ?_; try simp only [gmS])
                  (refine skW 7 ?_; try simp only [gmS])
                  (refine skW 8 ?_; try simp only [gmS])
                  (refine skW 9 ?_; try simp only [gmS])
                  (refine skW 10 ?_; try simp only [gmS])
                  (refine skW 11 ?_; try simp only [gmS])
                  (refine skW 12 ?_; try simp only [gmS])
                  (refine skW 13 ?_; try simp only [gmS])
                  (refine skW 14 ?_; try simp only [gmS])
                  (refine skW 15 ?_; try simp only [gmS])
                  (refine tkW 16 ?_; try simp only [gmS])
                  (refine tkW 17 ?_; try simp only [gmS])
                  have OQ := O31.out.then hHeld
                  (refine wpAnyH_done (by kernel_rfl) ?_ _; refine NoPanic.normal ?_)
                  go_wp2_with fail
                  go_meet
                  case rel => exact ⟨rfl, Lib.hid OQ⟩
                | succ j' =>
                  obtain ⟨y, hy, cy⟩ := PV.out j' rfl
                  have CX : ∀ u, OldB wr u → u.cell? ⟨b', off' + (j' + 1), none⟩ = some (.int .i64 x) := fun u hu => f0 u (O31.out.then hu)
                  have CY : ∀ u, OldB wr u → u.cell? ⟨b', off' + j', none⟩ = some (.int .i64 y) := fun u hu => cy u (O31.out.then hu)
                  have e0 : decide ((0 : Int) < ((j' + 1 : Nat) : Int)) = true := decide_eq_true (by omega)
                  have e1 : IntKind.i64.wrap (((j' + 1 : Nat) : Int) - 1) = (j' : Int) := by rw [show ((j' + 1 : Nat) : Int) - 1 = (j' : Int) by omega]; exact IntWalk.i64_in _ (by omega)
                  have e2 : decide (x ≤ y) = false := by simpa using hy
                  have e3 : (j' : Int) < (nf : Int) := by omega
                  have e4 : (0 : Int) ≤ (j' : Int) := by omega
                  have e5 : j' < nf := by omega
                  have e6 : ((j' : Int) + 1) < (nf : Int) := by omega
                  have e7 : (0 : Int) ≤ (j' : Int) + 1 := by omega
                  have e8 : IntKind.i64.wrap (j' : Int) = (j' : Int) := IntWalk.i64_in _ (by omega)
                  clear f0 cy hy PV
                  (refine tkW 0 ?_; try simp only [gmS])
                  (refine tkW 1 ?_; try simp only [gmS])
                  (refine tkW 2 ?_; try simp only [gmS])
                  (refine tkW 3 ?_; try simp only [gmS])
                  (refine tkW 4 ?_; try simp only [gmS])
                  (refine tkW 5 ?_; try simp only [gmS])
                  (refine tkW 6 ?_; try simp only [gmS])
                  (refine tkW 7 ?_; try simp only [gmS])
                  (refine tkW 8 ?_; try simp only [gmS])
                  (refine tkW 9 ?_; try simp only [gmS])
                  (refine tkW 10 ?_; try simp only [gmS])
                  (refine tkW 11 ?_; try simp only [gmS])
                  (refine tkW 12 ?_; try simp only [gmS])
                  (refine tkW 13 ?_; try simp only [gmS])
                  (refine tkW 14 ?_; try simp only [gmS])
                  (refine tkW 15 ?_; try simp only [gmS])
                  (refine tkW 16 ?_; try simp only [gmS])
                  (refine tkW 17 ?_; try simp only [gmS])
                  have OQ := O31.out.then hHeld
                  (refine wpAnyH_done (by kernel_rfl) ?_ _; refine NoPanic.normal ?_)
                  go_wp2_with fail
                  go_meet
                  case rel => exact ⟨rfl, Lib.hid OQ⟩
              case rest =>
                obtain ⟨rfl, OWH⟩ := hcut
                have OW2 := OWH.out
                go_wp2_with fail
                exact ⟨⟨j + 1, by omega, by go_num, ⟨_, rfl⟩, ⟨_, rfl⟩, ⟨_, rfl⟩, OW2⟩, by simp [intOf]; omega⟩
        · have d1 : ¬ (j : Int) < (nf : Int) := by omega
          go_wp2_with fail
          go_ret
          exact ⟨rfl, B8.out.trans (Below.mono OW B8.out.size)⟩
end Go.Proofs.YtniklmikdkjgiaaGreatDoor
