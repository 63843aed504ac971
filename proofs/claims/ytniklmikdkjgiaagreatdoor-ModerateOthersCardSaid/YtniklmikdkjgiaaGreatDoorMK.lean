/- WALK: the statement ModerateOthers (printed by gen_mk.py). -/
import Derived.Test.YtniklmikdkjgiaaGreatDoorMJ0
import Derived.Test.YtniklmikdkjgiaaGreatDoorWD
set_option linter.unusedSimpArgs false
set_option linter.unusedVariables false
namespace Go.Proofs.YtniklmikdkjgiaaGreatDoor
open Go.RowKit

theorem rvsL_take (l : List RV) (k : Nat) : rvsL (l.take k) = (rvsL l).take (k * 21) := by
  induction l generalizing k with
  | nil => simp [rvsL]
  | cons r l ih =>
    cases k with
    | zero => simp [rvsL]
    | succ k =>
      have e : rvsL (r :: l) = rvL r ++ rvsL l := rfl
      have e2 : rvsL ((r :: l).take (k + 1)) = rvL r ++ rvsL (l.take k) := rfl
      rw [e, e2, ih, show (k + 1) * 21 = (rvL r).length + k * 21 by show _ = 21 + k * 21; omega, List.take_length_add_append]
theorem rvsL_drop (l : List RV) (k : Nat) : rvsL (l.drop k) = (rvsL l).drop (k * 21) := by
  induction l generalizing k with
  | nil => simp [rvsL]
  | cons r l ih =>
    cases k with
    | zero => simp [rvsL]
    | succ k =>
      have e : rvsL (r :: l) = rvL r ++ rvsL l := rfl
      have e2 : rvsL ((r :: l).drop (k + 1)) = rvsL (l.drop k) := rfl
      rw [e, e2, ih, show (k + 1) * 21 = (rvL r).length + k * 21 by show _ = 21 + k * 21; omega, List.drop_length_add_append]
theorem rd_dropR {w : World} {A : Option Addr} {l : List RV} {k cap : Nat} (h : Rd w A (rvsL l)) (hl : l.length ≤ cap) : Rd w (if cap = k then A else Option.map (fun x => x.add (k * 21)) A) (rvsL (l.drop k)) := fun hn => by
  rw [rvsL_len, List.length_drop] at hn
  have hk : k < l.length := by omega
  have hc := Rd.cut h (k * 21) (rvsL l).length (rvsL l).length (by rw [rvsL_len]; omega) (Nat.le_refl _)
  rw [if_neg (by rw [rvsL_len]; omega), List.take_of_length_le (Nat.le_refl _), ← rvsL_drop] at hc
  rw [if_neg (by omega)]
  exact hc (by rw [rvsL_len, List.length_drop]; omega)
set_option maxHeartbeats 16000000 in
set_option maxRecDepth 100000 in
theorem walk_ModerateOthers (A : Option Addr) (cA : Nat) (l : List RV) (x : WoV) (r : RV) (q : Int) (w : World) (hcA : l.length ≤ cA) (hcm : cA ≤ 9223372036854775807) (h : Rw w A l) (hz : l.length * 336 ≤ 140737488351232) (hx : WoIs w x) (hr : RvW w r) (hq0 : 0 ≤ q) (hq1 : q ≤ 255) (ht : Tab w) :
    Calls Tryz.prog 8 #[.slice A l.length cA, woA x, rvA r, .int .u8 q] w fun e w' => e = .returned (.bool true) ∧ Below w.heap.size w w' := by
  unfold woA rvA
  obtain ⟨n1, hn1⟩ : ∃ n1, n1 = l.length := ⟨_, rfl⟩
  have N1 := Lib.hid hn1
  rw [← hn1] at hz hcA ⊢
  obtain ⟨qn, rfl⟩ : ∃ qn : Nat, q = (qn : Int) := ⟨q.toNat, by omega⟩
  obtain ⟨kk, hkk⟩ : ∃ kk, kk = qn % (n1 + 1) := ⟨_, rfl⟩
  have kn : kk ≤ n1 := by rw [hkk]; exact Nat.lt_succ_iff.1 (Nat.mod_lt qn (Nat.succ_pos n1))
  have md : (qn : Int).tmod ((n1 : Int) + 1) = (kk : Int) := by
    rw [hkk, Int.tmod_eq_emod_of_nonneg (by omega)]; simp
  have zn : ((n1 : Int) + 1 == 0) = false := by simp; omega
  obtain ⟨X, hX⟩ : ∃ X, X = (w.alloc (.cells (woL x).toArray 38)).alloc (.cells (rvL r).toArray 56) := ⟨_, rfl⟩
  obtain ⟨bw, hbw⟩ : ∃ bw, w.heap.size = bw := ⟨_, rfl⟩
  obtain ⟨bx, hbx⟩ : ∃ bx, w.heap.size + 1 = bx := ⟨_, rfl⟩
  have BX : Below w.heap.size w X := by rw [hX]; exact ((Below.refl _ _).alloc (Nat.le_refl _) _).alloc (by simp) _
  have XW : X.heap[bw]? = some (.cells (woL x).toArray 38 (0, 0)) := by rw [hX, ← hbw]; exact (alloc_old _ _ (by simp)).trans (heap_alloc_new w _)
  have XR : X.heap[bx]? = some (.cells (rvL r).toArray 56 (0, 0)) := by rw [hX, ← hbx]; exact alloc_new' _ _ _ (by simp)
  have RX : Hid (∀ u, OldB X u → u.rangeAt bw 0 (woL x)) := Lib.hid (fun u hu => by have := range_of_row ((hu.block bw (lt_of_block XW)).trans XW); simpa using this)
  have RR : Hid (∀ u, OldB X u → u.rangeAt bx 0 (rvL r)) := Lib.hid (fun u hu => by have := range_of_row ((hu.block bx (lt_of_block XR)).trans XR); simpa using this)
  have HD := Lib.hid (head29_any X (ht.keep BX))
  have BB : Hid (∀ u, OldB X u → Below w.heap.size w u) := Lib.hid (fun u hu => BX.trans (Below.mono hu BX.size))
  have H1 := Lib.hid h
  have HX := Lib.hid hx
  have HR := Lib.hid hr
  have HT := Lib.hid ht
  have hbw2 := Lib.hid hbw
  have hbx2 := Lib.hid hbx
  have X0 := Lib.hid hX
  clear hn1 hX hbw hbx BX XW XR h hx ht hr hkk
  go_enter Tryz.func8, Tryz.ntmps8
  go_upto_region 1 with fail
  rw [← X0.out, hbx2.out, hbw2.out]
  clear X0
  go_wp2_with fail
  (with_reducible refine HD.out.mono ?_)
  rintro e wd1 ⟨rfl, b1⟩
  have O1 : OldB X wd1 := b1
  have L1 : ∀ u, OldB wd1 u → OldB X u := fun u hu => O1.then hu
  clear b1 HD
  have n1b : n1 ≤ 418861572486 := by omega
  have kc : (kk : Int) ≤ (cA : Int) := by omega
  have kc2 : kk ≤ cA := by omega
  have k0i : (0 : Int) ≤ (kk : Int) := by omega
  go_upto_region 3 with fail
  clear md zn
  go_cut [11] (fun s11 wx => ∃ v3, s11 = v3 ∧ Hid (wx.ownsRow wd1.heap.size 56 21 v3 (kk + 1) (rvsL (l.take kk ++ [r]))) ∧ Hid (OldB wd1 wx))
  case first =>
    (refine wp_region_noPanic ?_; refine wp_region_held_drew (S := (OldB wd1)) (by kernel_rfl) ?_ (fun hHeld => ?_); exact Below.drew (Below.refl _ _))
    generalize wd1.drew = ud at *
    (refine tkW 1 ?_; try simp only [gmS])
    (refine tkW 2 ?_; try simp only [gmS])
    (refine tkW 3 ?_; try simp only [gmS])
    (refine ldW 5 56 (.tmp 6) bx 0 (rvL r) _ (fun v hv => RR.out v (O1.then hv)) Tryz.underlying56 (mrec_szL r) ?_; try simp only [gmS])
    (refine wpAnyH_ready (rs := [0, 6]) (by kernel_rfl) (by simp) ?_; refine AllReadyH.cons (o := _) rfl (fun K hK => ?_) (AllReadyH.cons (o := _) rfl (fun K hK => ?_) AllReadyH.nil))
    · skip
      go_simp
      have OE := Lib.hid (own_baseG (Below.size (show Below _ _ _ from hHeld)) (own_empty21 _ (cs := #[]) rfl 56))
      try simp only [World.size_alloc] at OE
      (refine hK.out _ _ (OldB.alloc hHeld _) (fun hHeld2 => ?_); clear hK K hHeld; have hHeld := hHeld2; clear hHeld2; try simp only [gmS])
      (refine wpAnyH_ready (rs := [4, 6]) (by kernel_rfl) (by simp) ?_; refine AllReadyH.cons (o := _) rfl (fun K hK => ?_) (AllReadyH.cons (o := _) rfl (fun K hK => ?_) AllReadyH.nil))
      · skip
        rw [if_pos (by first | rfl | (simp [Region.wanted, yielded]; done))]
        refine wp_appF (.tmp 20) (.tmp 23) 22 rfl Tryz.underlying22 info_rec rfl (by decide) wd1.heap.size _ 0 (rvsL []) A kk cA (rvsL (l.take kk)) (rvsW_one (fun p hp => H1.out.is p (List.mem_of_mem_take hp))) rfl rfl OE.out (by rw [rvsL_take]; exact (H1.out.rd.below (BB.out _ (L1 _ hHeld))).pre _) (by rw [rvsL_len, List.length_take, ← N1.out, Nat.min_eq_left kn]) (Below.size (show Below _ _ _ from hHeld)) (by omega) (by omega) ?_
        intro v3 w3 ho3 hg3 hq3
        have BG := Lib.hid (grown_below hg3 (fun k hk => (own_cells OE.out hk).1) (Below.size (show Below _ _ _ from hHeld)))
        have OF := Lib.hid (own_castG ho3 (Nat.zero_add kk) (show rvsL [] ++ rvsL (l.take kk) = rvsL (l.take kk) from rfl))
        (refine hK.out _ _ (OldB.then2 hHeld BG.out) (fun hHeld2 => ?_); clear hK K hHeld; have hHeld := hHeld2; clear hHeld2; try simp only [gmS])
        refine rdR 6 (fun K hK => ?_)
        refine wp_recs [r] 1 _ rfl rfl (by decide) (by decide) (by kernel_rfl) ?_
        rw [rvsL_one]
        have LR := Lib.hid (lit_rd hHeld r)
        have OF := Lib.hid (own_below OF.out ((Below.refl _ _).alloc (Nat.le_refl _) (.cells (rvL r).toArray 56)) (Nat.le_refl _))
        (refine hK.out _ _ (OldB.alloc hHeld _) (fun hHeld2 => ?_); clear hK K hHeld; have hHeld := hHeld2; clear hHeld2; try simp only [gmS])
        refine rdR 7 (fun K hK => ?_)
        refine wp_appF (.tmp 24) (.tmp 26) 22 rfl Tryz.underlying22 info_rec rfl (by decide) wd1.heap.size _ kk (rvsL (l.take kk)) _ 1 1 (rvL r) (fun u hu => (Array.all_eq_true_iff_forall_mem.1 (rvW_one HR.out)) u (by simpa using hu)) rfl rfl OF.out LR.out rfl (Below.size (show Below _ _ _ from hHeld)) (by omega) (by omega) ?_
        intro v4 w4 ho4 hg4 hq4
        have BG := Lib.hid (grown_below hg4 (fun k hk => (own_cells OF.out hk).1) (Below.size (show Below _ _ _ from hHeld)))
        have R4 := Lib.hid (own_castG ho4 rfl (show rvsL (l.take kk) ++ rvL r = rvsL (l.take kk ++ [r]) by rw [rvsL_app, rvsL_one]))
        (refine hK.out _ _ (OldB.then2 hHeld BG.out) (fun hHeld2 => ?_); clear hK K hHeld; have hHeld := hHeld2; clear hHeld2; try simp only [gmS])
        (refine tkW 8 ?_; try simp only [gmS])
        have OQ := hHeld
        (refine wpAnyH_done (by kernel_rfl) ?_ _; refine NoPanic.normal ?_)
        go_wp2_with fail
        go_meet
        case rel => exact ⟨_, rfl, R4, Lib.hid OQ⟩
      · skip
        rw [if_pos (by first | rfl | (simp [Region.wanted, yielded]; done))]
        refine wp_recs [r] 1 _ rfl rfl (by decide) (by decide) (by kernel_rfl) ?_
        rw [rvsL_one]
        have LR := Lib.hid (lit_rd hHeld r)
        have OE := Lib.hid (own_below OE.out ((Below.refl _ _).alloc (Nat.le_refl _) (.cells (rvL r).toArray 56)) (Nat.le_refl _))
        (refine hK.out _ _ (OldB.alloc hHeld _) (fun hHeld2 => ?_); clear hK K hHeld; have hHeld := hHeld2; clear hHeld2; try simp only [gmS])
        refine rdR 4 (fun K hK => ?_)
        refine wp_appF (.tmp 20) (.tmp 23) 22 rfl Tryz.underlying22 info_rec rfl (by decide) wd1.heap.size _ 0 (rvsL []) A kk cA (rvsL (l.take kk)) (rvsW_one (fun p hp => H1.out.is p (List.mem_of_mem_take hp))) rfl rfl OE.out (by rw [rvsL_take]; exact (H1.out.rd.below (BB.out _ (L1 _ hHeld))).pre _) (by rw [rvsL_len, List.length_take, ← N1.out, Nat.min_eq_left kn]) (Below.size (show Below _ _ _ from hHeld)) (by omega) (by omega) ?_
        intro v3 w3 ho3 hg3 hq3
        have BG := Lib.hid (grown_below hg3 (fun k hk => (own_cells OE.out hk).1) (Below.size (show Below _ _ _ from hHeld)))
        have OF := Lib.hid (own_castG ho3 (Nat.zero_add kk) (show rvsL [] ++ rvsL (l.take kk) = rvsL (l.take kk) from rfl))
        have LR := Lib.hid (rd_grown LR.out hg3 (by intro e; have e2 := Option.some.inj e; simp at e2; try omega))
        (refine hK.out _ _ (OldB.then2 hHeld BG.out) (fun hHeld2 => ?_); clear hK K hHeld; have hHeld := hHeld2; clear hHeld2; try simp only [gmS])
        refine rdR 7 (fun K hK => ?_)
        refine wp_appF (.tmp 24) (.tmp 26) 22 rfl Tryz.underlying22 info_rec rfl (by decide) wd1.heap.size _ kk (rvsL (l.take kk)) _ 1 1 (rvL r) (fun u hu => (Array.all_eq_true_iff_forall_mem.1 (rvW_one HR.out)) u (by simpa using hu)) rfl rfl OF.out LR.out rfl (Below.size (show Below _ _ _ from hHeld)) (by omega) (by omega) ?_
        intro v4 w4 ho4 hg4 hq4
        have BG := Lib.hid (grown_below hg4 (fun k hk => (own_cells OF.out hk).1) (Below.size (show Below _ _ _ from hHeld)))
        have R4 := Lib.hid (own_castG ho4 rfl (show rvsL (l.take kk) ++ rvL r = rvsL (l.take kk ++ [r]) by rw [rvsL_app, rvsL_one]))
        (refine hK.out _ _ (OldB.then2 hHeld BG.out) (fun hHeld2 => ?_); clear hK K hHeld; have hHeld := hHeld2; clear hHeld2; try simp only [gmS])
        (refine tkW 8 ?_; try simp only [gmS])
        have OQ := hHeld
        (refine wpAnyH_done (by kernel_rfl) ?_ _; refine NoPanic.normal ?_)
        go_wp2_with fail
        go_meet
        case rel => exact ⟨_, rfl, R4, Lib.hid OQ⟩
    · skip
      rw [if_pos (by first | rfl | (simp [Region.wanted, yielded]; done))]
      refine wp_recs [r] 1 _ rfl rfl (by decide) (by decide) (by kernel_rfl) ?_
      rw [rvsL_one]
      have LR := Lib.hid (lit_rd hHeld r)
      (refine hK.out _ _ (OldB.alloc hHeld _) (fun hHeld2 => ?_); clear hK K hHeld; have hHeld := hHeld2; clear hHeld2; try simp only [gmS])
      refine rdR 0 (fun K hK => ?_)
      go_simp
      have OE := Lib.hid (own_baseG (Below.size (show Below _ _ _ from hHeld)) (own_empty21 _ (cs := #[]) rfl 56))
      try simp only [World.size_alloc] at OE
      (refine hK.out _ _ (OldB.alloc hHeld _) (fun hHeld2 => ?_); clear hK K hHeld; have hHeld := hHeld2; clear hHeld2; try simp only [gmS])
      have LR := Lib.hid (LR.out.alloc (.cells #[] 56))
      refine rdR 4 (fun K hK => ?_)
      refine wp_appF (.tmp 20) (.tmp 23) 22 rfl Tryz.underlying22 info_rec rfl (by decide) wd1.heap.size _ 0 (rvsL []) A kk cA (rvsL (l.take kk)) (rvsW_one (fun p hp => H1.out.is p (List.mem_of_mem_take hp))) rfl rfl OE.out (by rw [rvsL_take]; exact (H1.out.rd.below (BB.out _ (L1 _ hHeld))).pre _) (by rw [rvsL_len, List.length_take, ← N1.out, Nat.min_eq_left kn]) (Below.size (show Below _ _ _ from hHeld)) (by omega) (by omega) ?_
      intro v3 w3 ho3 hg3 hq3
      have BG := Lib.hid (grown_below hg3 (fun k hk => (own_cells OE.out hk).1) (Below.size (show Below _ _ _ from hHeld)))
      have OF := Lib.hid (own_castG ho3 (Nat.zero_add kk) (show rvsL [] ++ rvsL (l.take kk) = rvsL (l.take kk) from rfl))
      have LR := Lib.hid (rd_grown LR.out hg3 (by intro e; have e2 := Option.some.inj e; simp at e2; try omega))
      (refine hK.out _ _ (OldB.then2 hHeld BG.out) (fun hHeld2 => ?_); clear hK K hHeld; have hHeld := hHeld2; clear hHeld2; try simp only [gmS])
      refine rdR 7 (fun K hK => ?_)
      refine wp_appF (.tmp 24) (.tmp 26) 22 rfl Tryz.underlying22 info_rec rfl (by decide) wd1.heap.size _ kk (rvsL (l.take kk)) _ 1 1 (rvL r) (fun u hu => (Array.all_eq_true_iff_forall_mem.1 (rvW_one HR.out)) u (by simpa using hu)) rfl rfl OF.out LR.out rfl (Below.size (show Below _ _ _ from hHeld)) (by omega) (by omega) ?_
      intro v4 w4 ho4 hg4 hq4
      have BG := Lib.hid (grown_below hg4 (fun k hk => (own_cells OF.out hk).1) (Below.size (show Below _ _ _ from hHeld)))
      have R4 := Lib.hid (own_castG ho4 rfl (show rvsL (l.take kk) ++ rvL r = rvsL (l.take kk ++ [r]) by rw [rvsL_app, rvsL_one]))
      (refine hK.out _ _ (OldB.then2 hHeld BG.out) (fun hHeld2 => ?_); clear hK K hHeld; have hHeld := hHeld2; clear hHeld2; try simp only [gmS])
      (refine tkW 8 ?_; try simp only [gmS])
      have OQ := hHeld
      (refine wpAnyH_done (by kernel_rfl) ?_ _; refine NoPanic.normal ?_)
      go_wp2_with fail
      go_meet
      case rel => exact ⟨_, rfl, R4, Lib.hid OQ⟩
  case rest =>
    obtain ⟨v3, rfl, OWN, OCH⟩ := hcut
    have OC := OCH.out
    clear OCH
    have DR : Hid (Rd wc (if cA = kk then A else Option.map (fun x => x.add (kk * 21)) A) (rvsL (l.drop kk))) := Lib.hid (rd_dropR (H1.out.rd.below (BB.out _ (L1 _ OC))) (by rw [← N1.out]; exact hcA))
    have LD : Hid ((rvsL (l.drop kk)).length = (n1 - kk) * 21) := Lib.hid (by rw [rvsL_len, List.length_drop, ← N1.out])
    have OD : Hid (∀ u ∈ rvsL (l.drop kk), u.oneCell' = true) := Lib.hid (rvsW_one (fun p hp => H1.out.is p (List.mem_of_mem_drop hp)))
    have bz : wd1.heap.size ≤ wc.heap.size := Below.size OC
    go_upto_region 5 with (at_builtin; refine wpList_appRS rfl (.tmp 28) (.tmp 31) 22 rfl Tryz.underlying22 info_rec rfl (by decide) wd1.heap.size _ (kk + 1) (rvsL (l.take kk ++ [r])) _ (n1 - kk) (cA - kk) (rvsL (l.drop kk)) OD.out rfl rfl OWN.out DR.out LD.out bz (by omega) (by omega) ?_; intro v5 w5 ho5 hb5 hg5; generalize (if cA = kk then A else Option.map (fun x => x.add (kk * 21)) A) = AX at *)
    have O5 : OldB X w5 := L1 _ (OldB.then2 OC hb5)
    obtain ⟨al, hal⟩ : ∃ al, al = (l.take kk ++ [r]) ++ l.drop kk := ⟨_, rfl⟩
    have NA : Hid (n1 + 1 = al.length) := Lib.hid (by rw [hal, List.length_append, List.length_append, List.length_take, List.length_drop, ← N1.out, Nat.min_eq_left kn]; simp; omega)
    have ho6 := own_castG ho5 (show kk + 1 + (n1 - kk) = n1 + 1 by omega) (show _ = rvsL al by rw [hal, rvsL_app (l.take kk ++ [r])])
    obtain ⟨A5, c5, rfl, hR5, -⟩ := own_slG ho6
    have AM : Hid (∀ p ∈ al, p ∈ l ∨ p = r) := Lib.hid (fun p hp => by
      rw [hal] at hp
      rcases List.mem_append.1 hp with hp | hp
      · rcases List.mem_append.1 hp with hp | hp
        · exact .inl (List.mem_of_mem_take hp)
        · exact .inr (List.mem_singleton.1 hp)
      · exact .inl (List.mem_of_mem_drop hp))
    have RM : Hid (r ∈ al) := Lib.hid (by rw [hal]; simp)
    have LM : Hid (∀ p ∈ l, p ∈ al) := Lib.hid (fun p hp => by
      rw [hal]
      rw [← List.take_append_drop kk l] at hp
      rcases List.mem_append.1 hp with hp | hp
      · exact List.mem_append_left _ (List.mem_append_left _ hp)
      · exact List.mem_append_right _ hp)
    have HL : Hid (Rw w5 A5 al) := Lib.hid ⟨hR5, fun p hp => by
      rcases AM.out p hp with hp | rfl
      · exact (H1.out.is p hp).below (BB.out _ O5)
      · exact HR.out.below (BB.out _ O5)⟩
    have LO : Hid (r.kind ≠ 1 → (r.kind = 3 → inI x.mods r.author = true → ∀ p ∈ l.take kk, p.kind = 1 → idC p.c ≠ r.target) → entS x.mods al = entS x.mods l) := Lib.hid (fun a b => by rw [hal]; exact law_others x.mods l r kk a b)
    have FW := Lib.hid (few29_any A5 (n1 + 1) c5 al x w5 NA.out HL.out (HX.out.below (BB.out _ O5)))
    unfold woA at FW
    have k0 : ∀ u, OldB X u → u.cell? ⟨bx, 0, none⟩ = some (.int .i64 r.kind) := fun u hu => by simpa using RR.out u hu 0 _ rfl
    clear hal ho5 ho6 hb5 hg5 hR5 OWN DR LD OD
    try rw [show kk + 1 + (n1 - kk) = n1 + 1 by omega]
    go_wp2_with (refine wpList_load_mid rfl 38 (.tmp 5) rfl bw 0 rfl (woL x) _ (RX.out _ O5) Tryz.underlying38 rfl (mwo_szL x) ?_)
    (with_reducible refine FW.out.mono ?_)
    rintro e wd3 ⟨rfl, b3⟩
    have O3 : OldB X wd3 := O5.then b3
    have B3 := Lib.hid (BB.out _ O3)
    have k0u := k0 wd3 O3
    have HL3 := Lib.hid (HL.out.below b3)
    clear b3 FW HL OC O5
    cases hf : (fewL (rcsC al) 20 && decide (x.mods.length ≤ 60))
    · go_wp2_with fail
      go_ret
      exact ⟨rfl, B3.out⟩
    by_cases h1 : r.kind = 1
    · have g1 : (r.kind == 1) = true := by rw [h1]; rfl
      clear h1 hf
      go_wp2_with fail
      go_ret
      exact ⟨rfl, B3.out⟩
    have g1 : (r.kind == 1) = false := by simpa using h1
    rw [Bool.and_eq_true, decide_eq_true_eq] at hf
    obtain ⟨hf1, hf2⟩ := hf
    have RA := Lib.hid (HL3.out.rs (by decide) hf1)
    have R1 := Lib.hid (H1.out.rs (by decide) (few_of (m := al) LM.out (by rw [← NA.out, ← N1.out]; omega) hf1))
    have ML : Hid (x.mods.length ≤ 1000000) := Lib.hid (Nat.le_trans hf2 (by decide))
    have N100 : n1 ≤ 100000 := by rw [N1.out]; exact R1.out.len
    have LO2 : Hid ((r.kind = 3 → inI x.mods r.author = true → ∀ p ∈ l.take kk, p.kind = 1 → idC p.c ≠ r.target) → entS x.mods al = entS x.mods l) := Lib.hid (LO.out h1)
    have BF : Hid (∀ u, OldB wd3 u → Below w.heap.size w u) := Lib.hid (fun u hu => B3.out.trans (Below.mono hu B3.out.size))
    have W3 : Hid (∀ u, OldB wd3 u → WoIs u x) := Lib.hid (fun u hu => HX.out.below (BF.out u hu))
    have T3 : Hid (∀ u, OldB wd3 u → Tab u) := Lib.hid (fun u hu => HT.out.keep (BF.out u hu))
    have RW3 : Hid (∀ u, OldB wd3 u → u.rangeAt bw 0 (woL x)) := Lib.hid (fun u hu => RX.out u (O3.then hu))
    have k1 : ∀ u, OldB wd3 u → u.cell? ⟨bx, 1, none⟩ = some (.int .i64 r.author) := fun u hu => by simpa using RR.out u (O3.then hu) 1 _ rfl
    have k7 : ∀ u, OldB wd3 u → u.cell? ⟨bx, 7, none⟩ = some (.string (mkB r.target)) := fun u hu => by simpa using RR.out u (O3.then hu) 7 _ rfl
    have SA := Lib.hid (fun u (hu : OldB wd3 u) => status_any A n1 cA l x u N1.out (R1.out.below (BF.out u hu)) (W3.out u hu) ML.out (T3.out u hu))
    have SBx := Lib.hid (fun u (hu : OldB wd3 u) => status_any A5 (n1 + 1) c5 al x u NA.out (RA.out.below hu) (W3.out u hu) ML.out (T3.out u hu))
    have ISC := Lib.hid (fun u (hu : OldB wd3 u) => is29_any x r.author u (W3.out u hu) ML.out)
    unfold woA at SA SBx ISC
    have DL : Hid (∀ e ∈ entS x.mods l, ∀ u, OldB wd3 u → EdIs u e.cur) := Lib.hid (fun e he u hu => ((R1.out.is _ (entS_from _ _ e he).cur).below (BF.out u hu)).ed)
    have LL : Hid ((entS x.mods l).length ≤ 100000) := Lib.hid (Nat.le_trans (entS_len _ _) R1.out.len)
    obtain ⟨es, hes⟩ : ∃ es, entS x.mods l = es := ⟨_, rfl⟩
    rw [hes] at SA DL LL LO2
    have k0w := k0u
    clear hes hf1 hf2 h1 RX BB HX HR HT LO k0
    go_upto_region 7 with fail
    have SW : OldB wd3 wd3 := Below.refl _ _
    by_cases h3 : r.kind = 3
    case neg =>
      have g3 : (r.kind == 3) = false := by simpa using h3
      have LO3 := LO2.out (fun a b => absurd a h3)
      have SB := SBx
      rw [LO3] at SB
      clear h3
      have OQ : OldB wd3 wd3 := SW
      have LQ : ∀ u, OldB wd3 u → OldB wd3 u := fun u hu => hu
      go_upto_region 13 with fail
      (refine wp_region_noPanic ?_; refine wp_region_held_drew (S := (OldB wd3)) (by kernel_rfl) ?_ (fun hHeld => ?_); exact Below.drew (Below.refl _ _))
      (refine tkW 0 ?_; try simp only [gmS])
      (refine tkW 1 ?_; try simp only [gmS])
      (refine tkW 2 ?_; try simp only [gmS])
      (refine ldW 3 38 (.tmp 5) bw 0 (woL x) _ (fun v hv => RW3.out v (OQ.then hv)) Tryz.underlying38 (mwo_szL x) ?_; try simp only [gmS])
      (refine tkW 5 ?_; try simp only [gmS])
      (refine ldW 6 38 (.tmp 5) bw 0 (woL x) _ (fun v hv => RW3.out v (OQ.then hv)) Tryz.underlying38 (mwo_szL x) ?_; try simp only [gmS])
      refine rdR 4 (fun K hK => ?_)
      go_simp
      (with_reducible refine (SA.out _ (LQ _ hHeld)).mono ?_)
      rintro e y1 ⟨a1, rfl, ho1, t1⟩
      obtain ⟨A9, c9, rfl, hR9, hc9⟩ := own_slG ho1
      (refine hK.out _ _ (OldB.then hHeld t1) (fun hHeld2 => ?_); clear hK K hHeld; have hHeld := hHeld2; clear hHeld2; try simp only [gmS])
      refine rdR 7 (fun K hK => ?_)
      go_simp
      (with_reducible refine (SB.out _ (LQ _ hHeld)).mono ?_)
      rintro e y2 ⟨a2, rfl, ho2, t2⟩
      obtain ⟨A10, c10, rfl, hR10, hc10⟩ := own_slG ho2
      have R9 := hR9.below t2
      (refine hK.out _ _ (OldB.then hHeld t2) (fun hHeld2 => ?_); clear hK K hHeld; have hHeld := hHeld2; clear hHeld2; try simp only [gmS])
      have AL : Hid (Calls Tryz.prog 31 #[.slice A9 es.length c9, .slice A10 es.length c10] y2 fun e w' => e = .returned (.bool true) ∧ Below y2.heap.size y2 w') := Lib.hid (by
        have := all29_any A9 A10 c9 c10 es es _ _ y2 rfl rfl (Nat.le_trans LL.out (by decide)) (Nat.le_trans LL.out (by decide)) R9 hR10 (fun e he => DL.out e he y2 (LQ _ hHeld)) (fun e he => DL.out e he y2 (LQ _ hHeld))
        rw [sameXs_refl] at this
        exact this)
      refine rdR 8 (fun K hK => ?_)
      go_simp
      (with_reducible refine AL.out.mono ?_)
      rintro e y3 ⟨rfl, t3⟩
      (refine hK.out _ _ (OldB.then hHeld t3) (fun hHeld2 => ?_); clear hK K hHeld; have hHeld := hHeld2; clear hHeld2; try simp only [gmS])
      (refine tkW 9 ?_; try simp only [gmS])
      (refine tkW 10 ?_; try simp only [gmS])
      have FF := Lib.hid (BF.out _ (LQ _ hHeld))
      (refine wpAnyH_done (by kernel_rfl) ?_ _; refine NoPanic.normal ?_)
      go_wp2_with fail
      go_ret
      exact ⟨rfl, FF.out⟩
    have g3 : (r.kind == 3) = true := by rw [h3]; rfl
    clear h3
    have k1u := k1 wd3 SW
    go_wp2_with (refine wpList_load_midG (by simp [Region.wanted, yielded]; done) 38 (.tmp 5) rfl bw 0 rfl (woL x) _ (RW3.out _ SW) Tryz.underlying38 rfl (mwo_szL x) ?_)
    (with_reducible refine (ISC.out _ SW).mono ?_)
    rintro e wq ⟨rfl, t1⟩
    have OWH : Hid (OldB wd3 wq) := Lib.hid t1
    clear t1
    cases hob : inI x.mods r.author
    · have LO3 := LO2.out (fun a b => by rw [hob] at b; cases b)
      have SB := SBx
      rw [LO3] at SB
      clear hob
      have OQ := OWH.out
      have LQ : ∀ u, OldB wq u → OldB wd3 u := fun u hu => OQ.then hu
      go_upto_region 13 with fail
      (refine wp_region_noPanic ?_; refine wp_region_held_drew (S := (OldB wq)) (by kernel_rfl) ?_ (fun hHeld => ?_); exact Below.drew (Below.refl _ _))
      (refine tkW 0 ?_; try simp only [gmS])
      (refine tkW 1 ?_; try simp only [gmS])
      (refine tkW 2 ?_; try simp only [gmS])
      (refine ldW 3 38 (.tmp 5) bw 0 (woL x) _ (fun v hv => RW3.out v (OQ.then hv)) Tryz.underlying38 (mwo_szL x) ?_; try simp only [gmS])
      (refine tkW 5 ?_; try simp only [gmS])
      (refine ldW 6 38 (.tmp 5) bw 0 (woL x) _ (fun v hv => RW3.out v (OQ.then hv)) Tryz.underlying38 (mwo_szL x) ?_; try simp only [gmS])
      refine rdR 4 (fun K hK => ?_)
      go_simp
      (with_reducible refine (SA.out _ (LQ _ hHeld)).mono ?_)
      rintro e y1 ⟨a1, rfl, ho1, t1⟩
      obtain ⟨A9, c9, rfl, hR9, hc9⟩ := own_slG ho1
      (refine hK.out _ _ (OldB.then hHeld t1) (fun hHeld2 => ?_); clear hK K hHeld; have hHeld := hHeld2; clear hHeld2; try simp only [gmS])
      refine rdR 7 (fun K hK => ?_)
      go_simp
      (with_reducible refine (SB.out _ (LQ _ hHeld)).mono ?_)
      rintro e y2 ⟨a2, rfl, ho2, t2⟩
      obtain ⟨A10, c10, rfl, hR10, hc10⟩ := own_slG ho2
      have R9 := hR9.below t2
      (refine hK.out _ _ (OldB.then hHeld t2) (fun hHeld2 => ?_); clear hK K hHeld; have hHeld := hHeld2; clear hHeld2; try simp only [gmS])
      have AL : Hid (Calls Tryz.prog 31 #[.slice A9 es.length c9, .slice A10 es.length c10] y2 fun e w' => e = .returned (.bool true) ∧ Below y2.heap.size y2 w') := Lib.hid (by
        have := all29_any A9 A10 c9 c10 es es _ _ y2 rfl rfl (Nat.le_trans LL.out (by decide)) (Nat.le_trans LL.out (by decide)) R9 hR10 (fun e he => DL.out e he y2 (LQ _ hHeld)) (fun e he => DL.out e he y2 (LQ _ hHeld))
        rw [sameXs_refl] at this
        exact this)
      refine rdR 8 (fun K hK => ?_)
      go_simp
      (with_reducible refine AL.out.mono ?_)
      rintro e y3 ⟨rfl, t3⟩
      (refine hK.out _ _ (OldB.then hHeld t3) (fun hHeld2 => ?_); clear hK K hHeld; have hHeld := hHeld2; clear hHeld2; try simp only [gmS])
      (refine tkW 9 ?_; try simp only [gmS])
      (refine tkW 10 ?_; try simp only [gmS])
      have FF := Lib.hid (BF.out _ (LQ _ hHeld))
      (refine wpAnyH_done (by kernel_rfl) ?_ _; refine NoPanic.normal ?_)
      go_wp2_with fail
      go_ret
      exact ⟨rfl, FF.out⟩
    · have I0 : Hid (∀ p ∈ l.take 0, p.kind = 1 → idC p.c ≠ r.target) := Lib.hid (fun p hp => by simp at hp)
      have RL : Hid (Rs wd3 A l) := Lib.hid (R1.out.below B3.out)
      go_wp2_with fail
      go_loopw [12] (fun s12 wr => ∃ i : Nat, i ≤ kk ∧ s12 = .int .i64 (i : Int) ∧ Hid (∀ p ∈ l.take i, p.kind = 1 → idC p.c ≠ r.target) ∧ Hid (OldB wd3 wr)) (fun i _ => kk - (intOf i).toNat)
      case atStart => exact ⟨0, Nat.zero_le _, rfl, I0, OWH⟩
      case round =>
        clear I0
        obtain ⟨i, hi, rfl, IH, OH⟩ := hrel
        have OQ : OldB wd3 wr := OH.out
        have LQ : ∀ u, OldB wr u → OldB wd3 u := fun u hu => OQ.then hu
        by_cases hlt : i < kk
        · have hin : i < n1 := by omega
          have hkl : i < l.length := by rw [← N1.out]; exact hin
          have d1 : (i : Int) < (kk : Int) := by omega
          have d2 : (0 : Int) ≤ (i : Int) := by omega
          have d3 : (i : Int) < (n1 : Int) := by omega
          obtain ⟨b, off, rfl, hb, hc⟩ := rvs_at RL.out.rd hkl
          have HI := RL.out.is l[i] (List.getElem_mem hkl)
          have HS := RL.out.sz l[i] (List.getElem_mem hkl)
          have TK : Hid (l.take (i + 1) = l.take i ++ [l[i]]) := Lib.hid (List.take_succ_eq_append_getElem hkl)
          generalize l[i] = p at *
          have LA : Hid (∀ u, OldB wr u → u.rangeAt b (off + i * 21) (rvL p)) := Lib.hid (fun u hu => rangeAt_old hb (fun j v hj => hc j v hj) u (LQ u hu))
          have a0 : ∀ u, OldB wr u → u.cell? ⟨b, off + i * 21, none⟩ = some (.int .i64 p.kind) := fun u hu => by simpa using LA.out u hu 0 _ rfl
          have kt : ∀ u, OldB wr u → u.cell? ⟨bx, 7, none⟩ = some (.string (mkB r.target)) := fun u hu => k7 u (LQ u hu)
          have IDC := Lib.hid (fun u (hu : OldB wr u) => id_any p u (HI.below (LQ u hu)) HS (T3.out u (LQ u hu)))
          unfold rvA at IDC
          have tb := tx_beq (idC p.c) r.target
          clear hc HI HS
          by_cases h1 : p.kind = 1
          · have e1 : (p.kind == 1) = true := by rw [h1]; rfl
            have NX : Hid (idC p.c ≠ r.target → ∀ q ∈ l.take (i + 1), q.kind = 1 → idC q.c ≠ r.target) := Lib.hid (fun hne q hq => by
              rw [TK.out] at hq
              rcases List.mem_append.1 hq with hq | hq
              · exact IH.out q hq
              · rw [List.mem_singleton.1 hq]; exact fun _ => hne)
            obtain ⟨dt, hdt⟩ : ∃ dt, dt = decide (idC p.c = r.target) := ⟨_, rfl⟩
            rw [← hdt] at tb
            have DT := Lib.hid hdt
            generalize mkB (idC p.c) = kv at *
            generalize mkB r.target = rv at *
            clear h1 hdt TK IH k7 k1
            go_upto_region 11 with fail
            (refine wp_region_noPanic ?_; refine wp_region_held_drew (S := (OldB wr)) (by kernel_rfl) ?_ (fun hHeld => ?_); exact Below.drew (Below.refl _ _))
            (refine tkW 0 ?_; try simp only [gmS])
            (refine tkW 1 ?_; try simp only [gmS])
            (refine tkW 2 ?_; try simp only [gmS])
            (refine tkW 3 ?_; try simp only [gmS])
            (refine tkW 4 ?_; try simp only [gmS])
            (refine tkW 5 ?_; try simp only [gmS])
            (refine tkW 6 ?_; try simp only [gmS])
            (refine tkW 7 ?_; try simp only [gmS])
            (refine tkW 8 ?_; try simp only [gmS])
            (refine tkW 9 ?_; try simp only [gmS])
            (refine ldW 10 56 (.tmp 66) b (off + i * 21) (rvL p) _ LA.out Tryz.underlying56 (mrec_szL p) ?_; try simp only [gmS])
            (refine tkW 12 ?_; try simp only [gmS])
            (refine tkW 13 ?_; try simp only [gmS])
            refine rdR 11 (fun K hK => ?_)
            go_simp
            (with_reducible refine (IDC.out _ hHeld).mono ?_)
            rintro e y1 ⟨rfl, t1⟩
            (refine hK.out _ _ (OldB.then hHeld t1) (fun hHeld2 => ?_); clear hK K hHeld; have hHeld := hHeld2; clear hHeld2; try simp only [gmS])
            (refine tkW 14 ?_; try simp only [gmS])
            (refine tkW 15 ?_; try simp only [gmS])
            have OZ := LQ _ hHeld
            have FF := Lib.hid (BF.out _ OZ)
            (refine wpAnyH_done (by kernel_rfl) ?_ _; refine NoPanic.normal ?_)
            cases dt
            · have NY := Lib.hid (NX.out (by have := DT.out; simpa using this.symm))
              go_wp2_with fail
              exact ⟨⟨i + 1, by omega, by go_num, NY, Lib.hid OZ⟩, by simp [intOf]; omega⟩
            · go_wp2_with fail
              go_ret
              exact ⟨rfl, FF.out⟩
          · have e1 : (p.kind == 1) = false := by simpa using h1
            have NY : Hid (∀ q ∈ l.take (i + 1), q.kind = 1 → idC q.c ≠ r.target) := Lib.hid (fun q hq => by
              rw [TK.out] at hq
              rcases List.mem_append.1 hq with hq | hq
              · exact IH.out q hq
              · rw [List.mem_singleton.1 hq]; exact fun hh => absurd hh h1)
            clear h1 TK IH IDC tb
            go_upto_region 11 with fail
            (refine wp_region_noPanic ?_; refine wp_region_held_drew (S := (OldB wr)) (by kernel_rfl) ?_ (fun hHeld => ?_); exact Below.drew (Below.refl _ _))
            (refine tkW 0 ?_; try simp only [gmS])
            (refine tkW 1 ?_; try simp only [gmS])
            (refine tkW 2 ?_; try simp only [gmS])
            (refine tkW 3 ?_; try simp only [gmS])
            (refine tkW 4 ?_; try simp only [gmS])
            (refine tkW 5 ?_; try simp only [gmS])
            (refine tkW 6 ?_; try simp only [gmS])
            (refine skW 7 ?_; try simp only [gmS])
            (refine skW 8 ?_; try simp only [gmS])
            (refine skW 9 ?_; try simp only [gmS])
            (refine skW 10 ?_; try simp only [gmS])
            (refine skW 11 ?_; try simp only [gmS])
            (refine skW 12 ?_; try simp only [gmS])
            (refine skW 13 ?_; try simp only [gmS])
            (refine skW 14 ?_; try simp only [gmS])
            (refine tkW 15 ?_; try simp only [gmS])
            have OZ := LQ _ hHeld
            (refine wpAnyH_done (by kernel_rfl) ?_ _; refine NoPanic.normal ?_)
            go_wp2_with fail
            exact ⟨⟨i + 1, by omega, by go_num, NY, Lib.hid OZ⟩, by simp [intOf]; omega⟩
        · have d1 : ¬ (i : Int) < (kk : Int) := by omega
          obtain rfl : i = kk := by omega
          have LO3 := LO2.out (fun _ _ => IH.out)
          have SB := SBx
          rw [LO3] at SB
          go_upto_region 13 with fail
          (refine wp_region_noPanic ?_; refine wp_region_held_drew (S := (OldB wr)) (by kernel_rfl) ?_ (fun hHeld => ?_); exact Below.drew (Below.refl _ _))
          (refine tkW 0 ?_; try simp only [gmS])
          (refine tkW 1 ?_; try simp only [gmS])
          (refine tkW 2 ?_; try simp only [gmS])
          (refine ldW 3 38 (.tmp 5) bw 0 (woL x) _ (fun v hv => RW3.out v (OQ.then hv)) Tryz.underlying38 (mwo_szL x) ?_; try simp only [gmS])
          (refine tkW 5 ?_; try simp only [gmS])
          (refine ldW 6 38 (.tmp 5) bw 0 (woL x) _ (fun v hv => RW3.out v (OQ.then hv)) Tryz.underlying38 (mwo_szL x) ?_; try simp only [gmS])
          refine rdR 4 (fun K hK => ?_)
          go_simp
          (with_reducible refine (SA.out _ (LQ _ hHeld)).mono ?_)
          rintro e y1 ⟨a1, rfl, ho1, t1⟩
          obtain ⟨A9, c9, rfl, hR9, hc9⟩ := own_slG ho1
          (refine hK.out _ _ (OldB.then hHeld t1) (fun hHeld2 => ?_); clear hK K hHeld; have hHeld := hHeld2; clear hHeld2; try simp only [gmS])
          refine rdR 7 (fun K hK => ?_)
          go_simp
          (with_reducible refine (SB.out _ (LQ _ hHeld)).mono ?_)
          rintro e y2 ⟨a2, rfl, ho2, t2⟩
          obtain ⟨A10, c10, rfl, hR10, hc10⟩ := own_slG ho2
          have R9 := hR9.below t2
          (refine hK.out _ _ (OldB.then hHeld t2) (fun hHeld2 => ?_); clear hK K hHeld; have hHeld := hHeld2; clear hHeld2; try simp only [gmS])
          have AL : Hid (Calls Tryz.prog 31 #[.slice A9 es.length c9, .slice A10 es.length c10] y2 fun e w' => e = .returned (.bool true) ∧ Below y2.heap.size y2 w') := Lib.hid (by
            have := all29_any A9 A10 c9 c10 es es _ _ y2 rfl rfl (Nat.le_trans LL.out (by decide)) (Nat.le_trans LL.out (by decide)) R9 hR10 (fun e he => DL.out e he y2 (LQ _ hHeld)) (fun e he => DL.out e he y2 (LQ _ hHeld))
            rw [sameXs_refl] at this
            exact this)
          refine rdR 8 (fun K hK => ?_)
          go_simp
          (with_reducible refine AL.out.mono ?_)
          rintro e y3 ⟨rfl, t3⟩
          (refine hK.out _ _ (OldB.then hHeld t3) (fun hHeld2 => ?_); clear hK K hHeld; have hHeld := hHeld2; clear hHeld2; try simp only [gmS])
          (refine tkW 9 ?_; try simp only [gmS])
          (refine tkW 10 ?_; try simp only [gmS])
          have FF := Lib.hid (BF.out _ (LQ _ hHeld))
          (refine wpAnyH_done (by kernel_rfl) ?_ _; refine NoPanic.normal ?_)
          go_wp2_with fail
          go_ret
          exact ⟨rfl, FF.out⟩
end Go.Proofs.YtniklmikdkjgiaaGreatDoor
