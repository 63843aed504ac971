import Derived.Test.YtniklmikdkjgiaaGreatDoorcLD
import Derived.Test.YtniklmikdkjgiaaGreatDoorcS6
import Derived.Test.YtniklmikdkjgiaaGreatDoorWD
set_option linter.all false
set_option maxHeartbeats 16000000
set_option maxRecDepth 100000
namespace Go.Proofs.YtniklmikdkjgiaaGreatDoor
open Go.RowKit
theorem keepO_take (ms : List Int) {l : List RV} {k : Nat} (h : k < l.length) : (l.take (k + 1)).filter (keepO ms) = (l.take k).filter (keepO ms) ++ if keepO ms l[k] = true then [l[k]] else [] := by
  rw [List.take_succ_eq_append_getElem h, List.filter_append]
  congr 1
  cases hh : keepO ms l[k] <;> simp [hh]
theorem keep_len (ms : List Int) (l : List RV) (k : Nat) : ((l.take k).filter (keepO ms)).length ≤ k := by
  have := List.length_filter_le (keepO ms) (l.take k)
  rw [List.length_take] at this
  omega
theorem walk_TrustOthers (A : Option Addr) (cA : Nat) (l : List RV) (x : WoV) (w : World) (h : Rw w A l) (hx : WoIs w x) (ht : Tab w) :
    Calls Tryz.prog 13 #[.slice A l.length cA, woA x] w fun e w' => e = .returned (.bool true) ∧ Below w.heap.size w w' := by
  unfold woA
  obtain ⟨n1, hn1⟩ : ∃ n1, n1 = l.length := ⟨_, rfl⟩
  have N1 := Lib.hid hn1
  rw [← hn1]
  obtain ⟨X, hX⟩ : ∃ X, X = w.alloc (.cells (woL x).toArray 38) := ⟨_, rfl⟩
  obtain ⟨bw, hbw⟩ : ∃ bw, w.heap.size = bw := ⟨_, rfl⟩
  have BX : Below w.heap.size w X := by rw [hX]; exact (Below.refl _ _).alloc (Nat.le_refl _) _
  have XX : X.heap[bw]? = some (.cells (woL x).toArray 38 (0, 0)) := by rw [hX, ← hbw]; exact heap_alloc_new w _
  have HB : Hid (∀ u, OldB X u → u.heap[bw]? = some (.cells (woL x).toArray 38 (0, 0))) := Lib.hid (fun u hu => (hu.block bw (lt_of_block XX)).trans XX)
  have RX : Hid (∀ u, OldB X u → u.rangeAt bw 0 (woL x)) := Lib.hid (fun u hu => by have := range_of_row (HB.out u hu); simpa using this)
  have HD := Lib.hid (head30_any X (ht.keep BX))
  have FW := Lib.hid (fun u (hu : OldB X u) => few30_any A n1 cA l x u hn1 (h.below (BX.trans (Below.mono hu BX.size))) (hx.below (BX.trans (Below.mono hu BX.size))))
  obtain ⟨A2, c2, e2, hr2⟩ := hx.ms
  obtain ⟨nm, hnm⟩ : ∃ m, m = x.mods.length := ⟨_, rfl⟩
  have NM := Lib.hid hnm
  have Q2 : Hid (∀ u, OldB X u → u.cell? ⟨bw, 2, none⟩ = some (.slice A2 nm c2)) := Lib.hid (fun u hu => by
    have := load_block (i := 2) (HB.out u hu) rfl
    rw [hnm, ← e2]; exact this)
  have BB : Hid (∀ u, OldB X u → Below w.heap.size w u) := Lib.hid (fun u hu => BX.trans (Below.mono hu BX.size))
  have RM : Hid (∀ u, OldB X u → Rd u A2 (intsL x.mods)) := Lib.hid (fun u hu => hr2.below (BB.out u hu))
  have H1 := Lib.hid h
  have HX := Lib.hid hx
  have HT := Lib.hid ht
  have hbw2 := Lib.hid hbw
  have X0 := Lib.hid hX
  unfold woA at FW
  clear hn1 hX hbw BX XX h hx ht e2 hr2 HB hnm
  go_enter Tryz.func13, Tryz.ntmps13
  go_upto_region 1 with fail
  rw [← X0.out, hbw2.out]
  clear X0
  go_wp2_with fail
  (with_reducible refine HD.out.mono ?_)
  rintro e wd1 ⟨rfl, b1⟩
  have O1 : OldB X wd1 := b1
  clear b1 HD
  go_wp2_with (refine wpList_load_mid rfl 38 (.tmp 3) rfl bw 0 rfl (woL x) _ (RX.out _ O1) Tryz.underlying38 rfl (mwo_szL _) ?_)
  (with_reducible refine (FW.out wd1 O1).mono ?_)
  rintro e wd2 ⟨rfl, b2⟩
  have O2 : OldB X wd2 := O1.then b2
  have B2 := Lib.hid (BB.out _ O2)
  clear b2 FW
  cases hf : (fewL (rcsC l) 14 && fewW x)
  · go_wp2_with fail
    go_ret
    exact ⟨rfl, B2.out⟩
  rw [Bool.and_eq_true] at hf
  obtain ⟨hf1, hf2⟩ := hf
  unfold fewW at hf2
  simp only [Bool.and_eq_true, decide_eq_true_eq] at hf2
  have R1 := Lib.hid (H1.out.rs (by decide) hf1)
  have ML : Hid (x.mods.length ≤ 1000000) := Lib.hid (Nat.le_trans hf2.2.1 (by decide))
  have KL : Hid (x.keys.length ≤ 1000) := Lib.hid (Nat.le_trans hf2.1 (by decide))
  have nm8 : nm ≤ 8 := by rw [NM.out]; exact hf2.2.1
  have N100 : n1 ≤ 100000 := by rw [N1.out]; exact R1.out.len
  clear hf1 hf2 H1 O1
  have S0 : Hid (wd2.ownsRow wd2.heap.size 56 21 (.slice none 0 0) ((l.take 0).filter (keepO x.mods)).length (rvsL ((l.take 0).filter (keepO x.mods)))) := Lib.hid (World.ownsRow_nil _ _ _ _)
  go_wp2_with fail
  go_loopw [6, 7, 8, 9, 10] (fun s6 s7 s8 s9 s10 wr => ∃ k : Nat, k ≤ n1 ∧ s7 = .int .i64 (k : Int) ∧ (∃ p, s8 = p) ∧ (∃ p, s9 = p) ∧ (∃ p, s10 = p) ∧ Hid (wr.ownsRow wd2.heap.size 56 21 s6 ((l.take k).filter (keepO x.mods)).length (rvsL ((l.take k).filter (keepO x.mods)))) ∧ Hid (OldB wd2 wr)) (fun _ i _ _ _ _ => n1 - (intOf i).toNat)
  case atStart => exact ⟨0, Nat.zero_le _, rfl, ⟨_, rfl⟩, ⟨_, rfl⟩, ⟨_, rfl⟩, S0, Lib.hid (Below.refl _ _)⟩
  case round =>
    clear S0
    obtain ⟨k, hk, rfl, ⟨p8, rfl⟩, ⟨p9, rfl⟩, ⟨p10, rfl⟩, OW, OH⟩ := hrel
    by_cases hlt : k < n1
    · have hkl : k < l.length := by rw [← N1.out]; exact hlt
      have d1 : (k : Int) < (n1 : Int) := by omega
      have d2 : (0 : Int) ≤ (k : Int) := by omega
      have BL := B2.out.trans (Below.mono OH.out B2.out.size)
      obtain ⟨b, off, rfl, hb, hc⟩ := rvs_at (R1.out.rd.below BL) hkl
      have HI := (R1.out.is l[k] (List.getElem_mem hkl)).below BL
      have PT : Hid ((l.take (k + 1)).filter (keepO x.mods) = (l.take k).filter (keepO x.mods) ++ if keepO x.mods l[k] = true then [l[k]] else []) := Lib.hid (keepO_take x.mods hkl)
      have LE := keep_len x.mods l k
      generalize l[k] = r at *
      generalize (l.take k).filter (keepO x.mods) = G at *
      have ON2 := Lib.hid (rvL_one r ⟨_, HI⟩)
      have HC : Hid (∀ u, OldB wr u → u.rangeAt b (off + k * 21) (rvL r)) := Lib.hid (fun u hu j v hj => (World.cell?_of_block (w := wr) (hu.block b hb)).trans (hc j v hj))
      have k0 : wr.cell? ⟨b, off + k * 21, none⟩ = some (.int .i64 r.kind) := by have := hc 0 _ rfl; simpa using this
      have ka : Hid (∀ u, OldB wr u → u.cell? ⟨b, off + k * 21 + 1, none⟩ = some (.int .i64 r.author)) := Lib.hid (fun u hu => HC.out u hu 1 _ rfl)
      have OX : Hid (OldB X wr) := Lib.hid (O2.then OH.out)
      have I0 : Hid (false = inI (x.mods.take 0) r.author) := Lib.hid rfl
      clear hc HI BL
      go_wp2_with fail
      clear k0
      obtain ⟨wo, rfl⟩ : ∃ wo, wo = wr := ⟨_, rfl⟩
      go_loopw [9, 10] (fun s9 s10 wq => ∃ j : Nat, ∃ o : Bool, j ≤ nm ∧ s10 = .int .i64 (j : Int) ∧ s9 = .bool o ∧ Hid (o = inI (x.mods.take j) r.author) ∧ Hid (OldB wo wq)) (fun _ i _ => nm - (intOf i).toNat)
      case atStart => exact ⟨0, false, Nat.zero_le _, rfl, rfl, I0, Lib.hid (Below.refl _ _)⟩
      case round =>
        clear I0
        obtain ⟨j, o, hj, rfl, rfl, IH, OQ⟩ := hrel
        have q2 := Q2.out _ (OX.out.then OQ.out)
        by_cases hlt2 : j < nm
        · have hjl : j < x.mods.length := by rw [← NM.out]; exact hlt2
          have d3 : (j : Int) < (nm : Int) := by omega
          have d4 : (0 : Int) ≤ (j : Int) := by omega
          obtain ⟨bm, om, rfl, hbm, hcm⟩ := RM.out _ (OX.out.then OQ.out) (by unfold intsL; rw [List.length_map]; omega)
          have cm := hcm j (.int .i64 x.mods[j]) (by unfold intsL; rw [List.getElem?_map, List.getElem?_eq_getElem hjl]; rfl)
          have ca := ka.out _ OQ.out
          have IN : Hid (inI (x.mods.take (j + 1)) r.author = (o || (x.mods[j] == r.author))) := Lib.hid (by rw [List.take_succ_eq_append_getElem hjl, inI_snoc, IH.out])
          generalize x.mods[j] = mj at *
          generalize r.author = ra at *
          clear hcm IH
          cases o
          · by_cases he : mj = ra
            · subst he
              have ge : (mj == mj) = true := by simp
              have IN2 : Hid (true = inI (x.mods.take (j + 1)) mj) := Lib.hid (by rw [IN.out]; simp)
              clear IN
              go_wp2_with fail
              go_quiet (fail)
              go_wp2_with fail
              exact ⟨⟨j + 1, true, by omega, by go_num, rfl, IN2, Lib.hid (below_drewN (show Below _ _ _ from OQ.out) _)⟩, by simp [intOf]; omega⟩
            · have ge : (mj == ra) = false := by simpa using he
              have IN2 : Hid (false = inI (x.mods.take (j + 1)) ra) := Lib.hid (by rw [IN.out, ge]; rfl)
              clear IN he
              go_wp2_with fail
              go_quiet (fail)
              go_wp2_with fail
              exact ⟨⟨j + 1, false, by omega, by go_num, rfl, IN2, Lib.hid (below_drewN (show Below _ _ _ from OQ.out) _)⟩, by simp [intOf]; omega⟩
          · have IN2 : Hid (true = inI (x.mods.take (j + 1)) ra) := Lib.hid (by rw [IN.out]; rfl)
            clear IN
            go_wp2_with fail
            go_quiet (fail)
            go_wp2_with fail
            exact ⟨⟨j + 1, true, by omega, by go_num, rfl, IN2, Lib.hid (below_drewN (show Below _ _ _ from OQ.out) _)⟩, by simp [intOf]; omega⟩
        · obtain rfl : nm = j := by omega
          have d3 : ¬ (nm : Int) < (nm : Int) := by omega
          have IO : Hid (o = inI x.mods r.author) := Lib.hid (by rw [IH.out, List.take_of_length_le (by rw [← NM.out]; exact Nat.le_refl _)])
          have OQ2 := Lib.hid (OH.out.then OQ.out)
          have OWQ := Lib.hid (own_sameG OW.out (fun g hg => OQ.out.block g (OW.out.lt g hg).2))
          have bz : wd2.heap.size ≤ wr.heap.size := Below.size (show Below _ _ _ from OQ2.out)
          have OQ : OldB wo wr := OQ.out
          clear IH OW hlt2
          by_cases h1 : r.kind = 1
          · have g1 : (r.kind == 1) = true := by rw [h1]; rfl
            have PT2 : Hid ((l.take (k + 1)).filter (keepO x.mods) = G ++ [r]) := Lib.hid (by rw [PT.out, if_pos (by unfold keepO; simp [h1])])
            clear PT IO
            go_wp2_with (first
              | (refine wpList_load_mid rfl 56 (.tmp 65) rfl b (off + k * 21) rfl (rvL r) _ (HC.out _ OQ) Tryz.underlying56 rfl (mrec_szL r) ?_)
              | (refine wpList_recs rfl [r] 1 _ rfl rfl (by decide) (by decide) (by kernel_rfl) ?_; rw [rvsL_one])
              | (at_builtin; refine wpList_appNG rfl (.tmp 62) (.tmp 67) 22 rfl Tryz.underlying22 info_rec rfl (by decide) wd2.heap.size _ G.length (rvsL G) (rvL r).toArray 1 (by decide) rfl (by intro y hy; exact (Array.all_eq_true_iff_forall_mem.1 ON2.out) y (by simpa using hy)) rfl rfl rfl OWQ.out bz (by omega) (by omega) ?_; intro g7 c7 w7 ho7 hg7 hl7 hb7))
            refine ⟨⟨k + 1, by omega, by go_num, ⟨_, rfl⟩, ⟨_, rfl⟩, ⟨_, rfl⟩, ?_, Lib.hid (OQ2.out.trans hb7)⟩, by simp [intOf]; omega⟩
            rw [PT2.out, List.length_append, rvsL_app, rvsL_one]
            exact Lib.hid ho7
          · have g1 : (r.kind == 1) = false := by simpa using h1
            by_cases h2 : r.kind = 2
            · have g2 : (r.kind == 2) = true := by rw [h2]; rfl
              have PT2 : Hid ((l.take (k + 1)).filter (keepO x.mods) = G ++ [r]) := Lib.hid (by rw [PT.out, if_pos (by unfold keepO; simp [h2])])
              clear PT IO
              go_wp2_with (first
                | (refine wpList_load_mid rfl 56 (.tmp 65) rfl b (off + k * 21) rfl (rvL r) _ (HC.out _ OQ) Tryz.underlying56 rfl (mrec_szL r) ?_)
                | (refine wpList_recs rfl [r] 1 _ rfl rfl (by decide) (by decide) (by kernel_rfl) ?_; rw [rvsL_one])
                | (at_builtin; refine wpList_appNG rfl (.tmp 62) (.tmp 67) 22 rfl Tryz.underlying22 info_rec rfl (by decide) wd2.heap.size _ G.length (rvsL G) (rvL r).toArray 1 (by decide) rfl (by intro y hy; exact (Array.all_eq_true_iff_forall_mem.1 ON2.out) y (by simpa using hy)) rfl rfl rfl OWQ.out bz (by omega) (by omega) ?_; intro g7 c7 w7 ho7 hg7 hl7 hb7))
              refine ⟨⟨k + 1, by omega, by go_num, ⟨_, rfl⟩, ⟨_, rfl⟩, ⟨_, rfl⟩, ?_, Lib.hid (OQ2.out.trans hb7)⟩, by simp [intOf]; omega⟩
              rw [PT2.out, List.length_append, rvsL_app, rvsL_one]
              exact Lib.hid ho7
            · have g2 : (r.kind == 2) = false := by simpa using h2
              by_cases h3 : r.kind = 3
              · have g3 : (r.kind == 3) = true := by rw [h3]; rfl
                cases o
                · have PT2 : Hid ((l.take (k + 1)).filter (keepO x.mods) = G) := Lib.hid (by rw [PT.out, if_neg (by unfold keepO; rw [← IO.out]; simp [h1, h2]), List.append_nil])
                  clear PT IO
                  go_wp2_with fail
                  exact ⟨⟨k + 1, by omega, by go_num, ⟨_, rfl⟩, ⟨_, rfl⟩, ⟨_, rfl⟩, by rw [PT2.out]; exact OWQ, OQ2⟩, by simp [intOf]; omega⟩
                · have PT2 : Hid ((l.take (k + 1)).filter (keepO x.mods) = G ++ [r]) := Lib.hid (by rw [PT.out, if_pos (by unfold keepO; rw [← IO.out]; simp [h3])])
                  clear PT IO
                  go_wp2_with (first
                    | (refine wpList_load_mid rfl 56 (.tmp 65) rfl b (off + k * 21) rfl (rvL r) _ (HC.out _ OQ) Tryz.underlying56 rfl (mrec_szL r) ?_)
                    | (refine wpList_recs rfl [r] 1 _ rfl rfl (by decide) (by decide) (by kernel_rfl) ?_; rw [rvsL_one])
                    | (at_builtin; refine wpList_appNG rfl (.tmp 62) (.tmp 67) 22 rfl Tryz.underlying22 info_rec rfl (by decide) wd2.heap.size _ G.length (rvsL G) (rvL r).toArray 1 (by decide) rfl (by intro y hy; exact (Array.all_eq_true_iff_forall_mem.1 ON2.out) y (by simpa using hy)) rfl rfl rfl OWQ.out bz (by omega) (by omega) ?_; intro g7 c7 w7 ho7 hg7 hl7 hb7))
                  refine ⟨⟨k + 1, by omega, by go_num, ⟨_, rfl⟩, ⟨_, rfl⟩, ⟨_, rfl⟩, ?_, Lib.hid (OQ2.out.trans hb7)⟩, by simp [intOf]; omega⟩
                  rw [PT2.out, List.length_append, rvsL_app, rvsL_one]
                  exact Lib.hid ho7
              · have g3 : (r.kind == 3) = false := by simpa using h3
                have PT2 : Hid ((l.take (k + 1)).filter (keepO x.mods) = G) := Lib.hid (by rw [PT.out, if_neg (by unfold keepO; simp [h1, h2, h3]), List.append_nil])
                clear PT IO
                go_wp2_with fail
                exact ⟨⟨k + 1, by omega, by go_num, ⟨_, rfl⟩, ⟨_, rfl⟩, ⟨_, rfl⟩, by rw [PT2.out]; exact OWQ, OQ2⟩, by simp [intOf]; omega⟩
    · have d1 : ¬ (k : Int) < (n1 : Int) := by omega
      have TT : Hid (l.take k = l) := Lib.hid (List.take_of_length_le (by rw [← N1.out]; omega))
      rw [TT.out] at OW
      clear hlt hk TT
      obtain ⟨A6, c6, rfl, hR6, -⟩ := own_slG OW.out
      have BL := Lib.hid (B2.out.trans (Below.mono OH.out B2.out.size))
      have OXr : OldB X wr := O2.then OH.out
      have BR : Hid (∀ u, OldB wr u → Below w.heap.size w u) := Lib.hid (fun u hu => BL.out.trans (Below.mono hu BL.out.size))
      have M6 : Rs wr A6 (l.filter (keepO x.mods)) := ⟨hR6, fun r hr => (R1.out.is r (List.mem_filter.1 hr).1).below BL.out, fun r hr => R1.out.sz r (List.mem_filter.1 hr).1, Nat.le_trans (List.length_filter_le _ _) R1.out.len⟩
      have EQ : Hid (lvT x (l.filter (keepO x.mods)) = lvT x l) := Lib.hid (lvT_others x l)
      generalize l.filter (keepO x.mods) = less at *
      have SA : Hid (∀ u, OldB wr u → Calls Tryz.prog 43 #[.slice A n1 cA, .agg (woL x).toArray] u fun e w' => ∃ v, e = .returned v ∧ w'.ownsRow u.heap.size 69 2 v x.keys.length (ptsL (lvP (lvT x l))) ∧ Below u.heap.size u w') := Lib.hid (fun u hu => lvls_any A n1 cA l x u N1.out (R1.out.below (BR.out u hu)) (HX.out.below (BR.out u hu)) ML.out KL.out (HT.out.keep (BR.out u hu)))
      have SB : Hid (∀ u, OldB wr u → Calls Tryz.prog 43 #[.slice A6 less.length c6, .agg (woL x).toArray] u fun e w' => ∃ v, e = .returned v ∧ w'.ownsRow u.heap.size 69 2 v x.keys.length (ptsL (lvP (lvT x l))) ∧ Below u.heap.size u w') := Lib.hid (fun u hu => by
        rw [← EQ.out]
        exact lvls_any A6 less.length c6 less x u rfl (M6.below hu) (HX.out.below (BR.out u hu)) ML.out KL.out (HT.out.keep (BR.out u hu)))
      have RXR : Hid (∀ u, OldB wr u → u.rangeAt bw 0 (woL x)) := Lib.hid (fun u hu => RX.out u (OXr.then hu))
      have LN : Hid ((lvP (lvT x l)).length = x.keys.length) := Lib.hid (by rw [lvP_len, lvT_len])
      have KL2 := KL.out
      generalize lvP (lvT x l) = L at *
      clear EQ M6 hR6 R1 OW
      go_upto_region 16 with fail
      (refine wp_region_noPanic ?_; refine wp_region_held_drew (S := (OldB wr)) (by kernel_rfl) ?_ (fun hHeld => ?_); exact Below.drew (Below.refl _ _))
      (refine tkW 0 ?_; try simp only [gmS])
      (refine tkW 1 ?_; try simp only [gmS])
      (refine tkW 2 ?_; try simp only [gmS])
      (refine ldW 3 38 (.tmp 3) bw 0 (woL x) _ RXR.out Tryz.underlying38 (mwo_szL x) ?_; try simp only [gmS])
      (refine tkW 5 ?_; try simp only [gmS])
      (refine ldW 6 38 (.tmp 3) bw 0 (woL x) _ RXR.out Tryz.underlying38 (mwo_szL x) ?_; try simp only [gmS])
      refine rdR 4 (fun K hK => ?_)
      go_simp
      (with_reducible refine (SA.out _ hHeld).mono ?_)
      rintro e z1 ⟨a1, rfl, ho1, t1⟩
      obtain ⟨A9, c9, rfl, hR9, -⟩ := own_slG ho1
      (refine hK.out _ _ (OldB.then hHeld t1) (fun hHeld2 => ?_); clear hK K hHeld; have hHeld := hHeld2; clear hHeld2; try simp only [gmS])
      refine rdR 7 (fun K hK => ?_)
      go_simp
      (with_reducible refine (SB.out _ hHeld).mono ?_)
      rintro e z2 ⟨a2, rfl, ho2, t2⟩
      obtain ⟨A10, c10, rfl, hR10, -⟩ := own_slG ho2
      have AL := Lib.hid (same30_any A9 A10 x.keys.length c9 c10 L z2 LN.out.symm KL2 (hR9.below t2) hR10)
      (refine hK.out _ _ (OldB.then hHeld t2) (fun hHeld2 => ?_); clear hK K hHeld; have hHeld := hHeld2; clear hHeld2; try simp only [gmS])
      refine rdR 8 (fun K hK => ?_)
      go_simp
      (with_reducible refine AL.out.mono ?_)
      rintro e z3 ⟨rfl, t3⟩
      (refine hK.out _ _ (OldB.then hHeld t3) (fun hHeld2 => ?_); clear hK K hHeld; have hHeld := hHeld2; clear hHeld2; try simp only [gmS])
      (refine tkW 9 ?_; try simp only [gmS])
      (refine tkW 10 ?_; try simp only [gmS])
      have FF := Lib.hid (BR.out _ hHeld)
      (refine wpAnyH_done (by kernel_rfl) ?_ _; refine NoPanic.normal ?_)
      go_wp2_with fail
      go_ret
      exact ⟨rfl, FF.out⟩
end Go.Proofs.YtniklmikdkjgiaaGreatDoor
