import Derived.Test.YtniklmikdkjgiaaGreatDoorcLD
import Derived.Test.YtniklmikdkjgiaaGreatDoorcS5
import Derived.Test.YtniklmikdkjgiaaGreatDoorcTR
import Derived.Test.YtniklmikdkjgiaaGreatDoorWD
set_option linter.all false
set_option maxHeartbeats 16000000
set_option maxRecDepth 100000
namespace Go.Proofs.YtniklmikdkjgiaaGreatDoor
open Go.RowKit
def keysT : List Tx := [[97], [98], [99], [100]]
def wv30 (g0 g1 : Nat) : WoV := ⟨.slice none 0 0, keysT, .slice (some ⟨g0, 0, none⟩) 4 4, [0], .slice (some ⟨g1, 0, none⟩) 1 1, 1, .slice none 0 0, .slice none 0 0⟩
theorem wv30_is {w : World} {g0 g1 : Nat} (h0 : w.heap[g0]? = some (.cells (strsC keysT).toArray 9 (0, 0))) (h1 : w.heap[g1]? = some (.cells #[.int .i64 0] 3 (0, 0))) : WoIs w (wv30 g0 g1) :=
  ⟨⟨_, _, _, rfl⟩, ⟨some ⟨g0, 0, none⟩, 4, rfl, Rd.of_row h0 (by simp [wv30])⟩, ⟨some ⟨g1, 0, none⟩, 1, rfl, Rd.of_row h1 (by simp [intsL, wv30])⟩, ⟨_, _, _, rfl⟩, ⟨_, _, _, rfl⟩, (fun s hs => by
    have : s.length = 1 := by
      have hs : s ∈ keysT := hs
      unfold keysT at hs
      simp only [List.mem_cons, List.not_mem_nil, or_false] at hs
      rcases hs with rfl | rfl | rfl | rfl <;> rfl
    omega), (by show 4 ≤ 9223372036854775807; decide), (by show 1 ≤ 9223372036854775807; decide)⟩
theorem revR_is (t : Tx) (w : World) : RvIs w (revR t) := mod_is ⟨none, 0, rfl, es_nil w⟩
theorem revR_sz {t : Tx} (ht : t.length ≤ 1000000) : RcSz (revR t).c := mod_sz ht
theorem idK_len (k : Int) : (idK k).length ≤ 1000000 := Nat.le_trans (idC_len _) (by decide)
theorem rs_of {w : World} {A : Option Addr} {l : List RV} (h : Rd w A (rvsL l)) (hi : ∀ r ∈ l, RvIs w r ∧ RcSz r.c) (hl : l.length ≤ 1000) : Rs w A l := ⟨h, fun r hr => (hi r hr).1, fun r hr => (hi r hr).2, by omega⟩
theorem chain_gd (g0 g1 : Nat) (v1 v2 v3 : Value) : gdT (wv30 g0 g1) (chainL v1 v2 v3) = gdC 4 [0] 1 chainC := by rw [gd_c]; rfl
theorem pupp_gd (g0 g1 : Nat) (v1 v2 v3 : Value) : gdT (wv30 g0 g1) (puppL v1 v2 v3) = gdC 4 [0] 1 puppC := by rw [gd_c]; rfl
theorem rev_gd (g0 g1 : Nat) (v1 v2 v3 : Value) : gdT (wv30 g0 g1) (revL v1 v2 v3) = gdC 4 [0] 1 revlC := by rw [gd_c]; rfl
theorem chain_lvT (g0 g1 : Nat) (v1 v2 v3 : Value) : lvT (wv30 g0 g1) (chainL v1 v2 v3) = [1, 2, 3, 0] := by unfold lvT; rw [chain_gd]; exact chain_lv
theorem pupp_lvT (g0 g1 : Nat) (v1 v2 v3 : Value) : lvT (wv30 g0 g1) (puppL v1 v2 v3) = [1, 0, 0, 0] := by unfold lvT; rw [pupp_gd]; exact pupp_lv
theorem rev_lvT (g0 g1 : Nat) (v1 v2 v3 : Value) : lvT (wv30 g0 g1) (revL v1 v2 v3) = [1, 0, 0, 0] := by unfold lvT; rw [rev_gd]; exact revl_lv
theorem chain_whyU (g0 g1 : Nat) (v1 v2 v3 : Value) : whyU (gdT (wv30 g0 g1) (chainL v1 v2 v3)) 2 4 = [1] ∧ whyU (gdT (wv30 g0 g1) (chainL v1 v2 v3)) 0 4 = [] := by rw [chain_gd]; exact ⟨chain_why2, chain_why0⟩
theorem rvsI_one {w : World} {l : List RV} (h : ∀ r ∈ l, RvIs w r) : ∀ u ∈ rvsL l, u.oneCell' = true := fun u hu => by
  obtain ⟨r, hr, hu⟩ := List.mem_flatMap.1 hu
  exact (Array.all_eq_true_iff_forall_mem.1 (rvL_one r ⟨w, h r hr⟩)) u (by simpa using hu)
theorem litM_rd {W u : World} (_ : OldB W u) (l : List RV) : Rd (u.alloc (.cells (rvsL l).toArray 56)) (some ⟨u.heap.size, 0, none⟩) (rvsL l) := Rd.of_row (heap_alloc_new u _) (List.prefix_refl (rvsL l))
theorem hare (A : Option Addr) (n c : Nat) (l : List RV) (x : WoV) (L : List Int) (u : World) (hn : n = l.length) (h : Rs u A l) (hx : WoIs u x) (hm : x.mods.length ≤ 1000000) (hk : x.keys.length ≤ 1000) (ht : Tab u) (h4 : L.length = 4) (he : lvT x l = L) :
    Calls Tryz.prog 89 #[.slice A n c, .agg (woL x).toArray, .slice (some ⟨u.heap.size, 0, none⟩) 4 4] (u.alloc (.cells (intsL L).toArray 3)) fun e w' => e = .returned (.bool true) ∧ Below u.heap.size u w' := by
  have BA : Below u.heap.size u (u.alloc (.cells (intsL L).toArray 3)) := (Below.refl _ _).alloc (Nat.le_refl _) _
  refine (are_any A n c l x (some ⟨u.heap.size, 0, none⟩) 4 4 L _ hn (h.below BA) (hx.below BA) hm hk (ht.keep BA) (Rd.of_row (heap_alloc_new u _) (by simp)) h4.symm (by decide)).mono ?_
  rintro e w' ⟨rfl, hb⟩
  exact ⟨by rw [decide_eq_true he], BA.trans (hb.mono BA.size)⟩
theorem head30_any (w : World) (ht : Tab w) : Calls Tryz.prog 41 #[] w fun e w' => e = .returned (.bool true) ∧ Below w.heap.size w w' := by
  obtain ⟨g0, hg0⟩ : ∃ g, w.heap.size = g := ⟨_, rfl⟩
  obtain ⟨g1, hg1⟩ : ∃ g, w.heap.size + 1 = g := ⟨_, rfl⟩
  obtain ⟨bW, hbW⟩ : ∃ g, w.heap.size + 1 + 1 = g := ⟨_, rfl⟩
  obtain ⟨W, hW⟩ : ∃ W, W = ((w.alloc (.cells #[.string ⟨#[97]⟩, .string ⟨#[98]⟩, .string ⟨#[99]⟩, .string ⟨#[100]⟩] 9)).alloc (.cells #[.int .i64 0] 3)).alloc (.cells #[.slice none 0 0, .slice (some ⟨g0, 0, none⟩) 4 4, .slice (some ⟨g1, 0, none⟩) 1 1, .int .i64 1, .slice none 0 0, .slice none 0 0] 38) := ⟨_, rfl⟩
  have XG0 : W.heap[g0]? = some (.cells (strsC keysT).toArray 9 (0, 0)) := by rw [hW, ← hg0]; exact (alloc_old _ _ (by simp; omega)).trans ((alloc_old _ _ (by simp)).trans (heap_alloc_new w _))
  have XG1 : W.heap[g1]? = some (.cells #[.int .i64 0] 3 (0, 0)) := by rw [hW, ← hg1]; exact (alloc_old _ _ (by simp)).trans (alloc_new' _ _ _ (by simp))
  have XW : W.heap[bW]? = some (.cells (woL (wv30 g0 g1)).toArray 38 (0, 0)) := by rw [hW, ← hbW]; exact alloc_new' _ _ _ (by simp)
  have BW : Below w.heap.size w W := by rw [hW]; exact (((Below.refl _ _).alloc (Nat.le_refl _) _).alloc (by simp) _).alloc (by simp; omega) _
  have RWD : Hid (∀ u, OldB W u → u.rangeAt bW 0 (woL (wv30 g0 g1))) := Lib.hid (fun u hu => by have := range_of_row ((hu.block bW (lt_of_block XW)).trans XW); simpa using this)
  have WIS : Hid (∀ u, OldB W u → WoIs u (wv30 g0 g1)) := Lib.hid (fun u hu => (wv30_is XG0 XG1).below hu)
  have TT : Hid (∀ u, OldB W u → Tab u) := Lib.hid (fun u hu => ht.keep (BW.trans (Below.mono hu BW.size)))
  have BB : Hid (∀ u, OldB W u → Below w.heap.size w u) := Lib.hid (fun u hu => BW.trans (Below.mono hu BW.size))
  have CH := Lib.hid (changes_any W (TT.out W (Below.refl _ _)))
  have MWL : Hid ((wv30 g0 g1).mods.length ≤ 1000000) := Lib.hid (by show 1 ≤ 1000000; decide)
  have KWL : Hid ((wv30 g0 g1).keys.length ≤ 1000) := Lib.hid (by show 4 ≤ 1000; decide)
  have LC := Lib.hid (chain_lvT g0 g1)
  have LP := Lib.hid (pupp_lvT g0 g1)
  have LR9 := Lib.hid (rev_lvT g0 g1)
  have WU := Lib.hid (chain_whyU g0 g1)
  have K4 : Hid ((wv30 g0 g1).keys.length = 4) := Lib.hid rfl
  have SZ := mwo_szL (wv30 g0 g1)
  have H0 := Lib.hid hg0
  have H1 := Lib.hid hg1
  have H2 := Lib.hid hbW
  have HW := Lib.hid hW
  clear XG0 XG1 XW BW ht hg0 hg1 hbW hW
  go_enter Tryz.func41, Tryz.ntmps41
  go_upto_region 2 with fail
  rw [H2.out, H1.out, H0.out, ← HW.out]
  clear HW H0 H1 H2
  generalize wv30 g0 g1 = x at *
  go_wp2_with fail
  (with_reducible refine CH.out.mono ?_)
  rintro e u2 ⟨A2, c2, A3, c3, v1, v2, v3, rfl, rs, ri, b2⟩
  have O2 : OldB W u2 := b2
  obtain ⟨b3, o3, rfl, hb3, hc3⟩ := ri (by decide)
  have i1 : ∀ u, OldB u2 u → u.cell? ⟨b3, o3 + 1, none⟩ = some (.string (mkB (idK 1))) := fun u hu => (World.cell?_of_block (w := u2) (hu.block b3 hb3)).trans (hc3 1 _ rfl)
  have i2 : ∀ u, OldB u2 u → u.cell? ⟨b3, o3 + 2, none⟩ = some (.string (mkB (idK 2))) := fun u hu => (World.cell?_of_block (w := u2) (hu.block b3 hb3)).trans (hc3 2 _ rfl)
  have i3 : ∀ u, OldB u2 u → u.cell? ⟨b3, o3 + 3, none⟩ = some (.string (mkB (idK 3))) := fun u hu => (World.cell?_of_block (w := u2) (hu.block b3 hb3)).trans (hc3 3 _ rfl)
  obtain ⟨L0, hL0⟩ : ∃ L0, L0 = [chgK 1 v1, chgK 2 v2, chgK 3 v3] := ⟨_, rfl⟩
  rw [← hL0] at rs
  have EC : Hid (rvsL L0 ++ rvsL [markR 0 (idK 1) true, markR 1 (idK 2) true] = rvsL (chainL v1 v2 v3)) := Lib.hid (by rw [hL0, ← rvsL_app]; rfl)
  have EP : Hid (rvsL L0 ++ rvsL [markR 2 (idK 3) true, markR 3 (idK 2) true, markR 2 (idK 2) true] = rvsL (puppL v1 v2 v3)) := Lib.hid (by rw [hL0, ← rvsL_app]; rfl)
  have ER : Hid (rvsL L0 ++ rvsL [markR 0 (idK 1) true, revR (idK 1)] = rvsL (revL v1 v2 v3)) := Lib.hid (by rw [hL0, ← rvsL_app]; rfl)
  have RL0 : Hid (∀ u, OldB u2 u → Rd u A2 (rvsL L0)) := Lib.hid (fun u hu => rs.rd.below hu)
  have ON0 : Hid (∀ y ∈ rvsL L0, y.oneCell' = true) := Lib.hid (rvsI_one rs.is)
  have LN0 : Hid ((rvsL L0).length = 3 * 21) := Lib.hid (by rw [rvsL_len, hL0]; rfl)
  have IS0 : Hid (∀ u, OldB u2 u → ∀ r ∈ [chgK 1 v1, chgK 2 v2, chgK 3 v3], RvIs u r ∧ RcSz r.c) := Lib.hid (fun u hu r hr => ⟨(rs.is r (by rw [hL0]; exact hr)).below hu, rs.sz r (by rw [hL0]; exact hr)⟩)
  have M1 := Lib.hid (fun u => mark_any 0 (idK 1) true u)
  have M2 := Lib.hid (fun u => mark_any 1 (idK 2) true u)
  have M3 := Lib.hid (fun u => mark_any 2 (idK 3) true u)
  have M4 := Lib.hid (fun u => mark_any 3 (idK 2) true u)
  have M5 := Lib.hid (fun u => mark_any 2 (idK 2) true u)
  have D1 : Hid (∀ y ∈ rvsL [markR 0 (idK 1) true, markR 1 (idK 2) true], y.oneCell' = true) := Lib.hid (rvsI_one (w := u2) (fun r hr => by
    simp only [List.mem_cons, List.not_mem_nil, or_false] at hr
    rcases hr with rfl | rfl <;> exact markR_is _ _ _ _))
  have D2 : Hid (∀ y ∈ rvsL [markR 2 (idK 3) true, markR 3 (idK 2) true, markR 2 (idK 2) true], y.oneCell' = true) := Lib.hid (rvsI_one (w := u2) (fun r hr => by
    simp only [List.mem_cons, List.not_mem_nil, or_false] at hr
    rcases hr with rfl | rfl | rfl <;> exact markR_is _ _ _ _))
  have D3 : Hid (∀ y ∈ rvsL [markR 0 (idK 1) true, revR (idK 1)], y.oneCell' = true) := Lib.hid (rvsI_one (w := u2) (fun r hr => by
    simp only [List.mem_cons, List.not_mem_nil, or_false] at hr
    rcases hr with rfl | rfl
    · exact markR_is _ _ _ _
    · exact revR_is _ _))
  clear hL0 rs ri hc3 b2 CH hb3
  go_upto_region 3 with fail
  go_cut [4] (fun s4 wx => ∃ A c, s4 = .slice A 5 c ∧ Hid (Rd wx A (rvsL (chainL v1 v2 v3))) ∧ Hid (OldB u2 wx))
  case first =>
    (refine wp_region_noPanic ?_; refine wp_region_held_drew (S := (OldB u2)) (by kernel_rfl) ?_ (fun hHeld => ?_); exact Below.drew (Below.refl _ _))
    generalize u2.drew = ud at *
    (refine tkW 1 ?_; try simp only [gmS])
    (refine tkW 3 ?_; try simp only [gmS])
    (refine tkW 4 ?_; try simp only [gmS])
    (refine tkW 5 ?_; try simp only [gmS])
    (refine tkW 7 ?_; try simp only [gmS])
    (refine tkW 8 ?_; try simp only [gmS])
    (refine tkW 9 ?_; try simp only [gmS])
    refine rdR 0 (fun K hK => ?_)
    go_simp
    have OE := Lib.hid (own_baseG (Below.size (show Below _ _ _ from hHeld)) (own_empty21 _ (cs := #[]) rfl 56))
    try simp only [World.size_alloc] at OE
    (refine hK.out _ _ (OldB.alloc hHeld _) (fun hHeld2 => ?_); clear hK K hHeld; have hHeld := hHeld2; clear hHeld2; try simp only [gmS])
    refine rdR 2 (fun K hK => ?_)
    refine wp_appF (.tmp 16) (.tmp 17) 22 rfl Tryz.underlying22 info_rec rfl (by decide) u2.heap.size _ 0 (rvsL []) A2 3 c2 (rvsL L0) ON0.out rfl rfl OE.out (RL0.out _ hHeld) LN0.out (Below.size (show Below _ _ _ from hHeld)) (by omega) (by omega) ?_
    intro v3 w3 ho3 hg3 hq3
    have BG := Lib.hid (grown_below hg3 (fun k hk => (own_cells OE.out hk).1) (Below.size (show Below _ _ _ from hHeld)))
    have OF := Lib.hid (own_castG ho3 (Nat.zero_add 3) (show rvsL [] ++ rvsL L0 = rvsL L0 from rfl))
    (refine hK.out _ _ (OldB.then2 hHeld BG.out) (fun hHeld2 => ?_); clear hK K hHeld; have hHeld := hHeld2; clear hHeld2; try simp only [gmS])
    refine rdR 6 (fun K hK => ?_)
    go_simp
    (with_reducible refine (M1.out _).mono ?_)
    rintro e z0 ⟨rfl, t0⟩
    have OF := Lib.hid (own_below OF.out t0 (Nat.le_refl _))
    (refine hK.out _ _ (OldB.then hHeld t0) (fun hHeld2 => ?_); clear hK K hHeld; have hHeld := hHeld2; clear hHeld2; try simp only [gmS])
    refine rdR 10 (fun K hK => ?_)
    go_simp
    (with_reducible refine (M2.out _).mono ?_)
    rintro e z1 ⟨rfl, t1⟩
    have OF := Lib.hid (own_below OF.out t1 (Nat.le_refl _))
    (refine hK.out _ _ (OldB.then hHeld t1) (fun hHeld2 => ?_); clear hK K hHeld; have hHeld := hHeld2; clear hHeld2; try simp only [gmS])
    refine rdR 11 (fun K hK => ?_)
    refine wp_recs [markR 0 (idK 1) true, markR 1 (idK 2) true] 2 _ rfl rfl (by decide) (by decide) (by kernel_rfl) ?_
    have LR := Lib.hid (litM_rd hHeld [markR 0 (idK 1) true, markR 1 (idK 2) true])
    have OF := Lib.hid (own_below OF.out ((Below.refl _ _).alloc (Nat.le_refl _) (.cells (rvsL [markR 0 (idK 1) true, markR 1 (idK 2) true]).toArray 56)) (Nat.le_refl _))
    (refine hK.out _ _ (OldB.alloc hHeld _) (fun hHeld2 => ?_); clear hK K hHeld; have hHeld := hHeld2; clear hHeld2; try simp only [gmS])
    refine rdR 12 (fun K hK => ?_)
    refine wp_appF (.tmp 18) (.tmp 27) 22 rfl Tryz.underlying22 info_rec rfl (by decide) u2.heap.size _ 3 (rvsL L0) _ 2 2 (rvsL [markR 0 (idK 1) true, markR 1 (idK 2) true]) D1.out rfl rfl OF.out LR.out (rvsL_len _) (Below.size (show Below _ _ _ from hHeld)) (by omega) (by omega) ?_
    intro v4 w4 ho4 hg4 hq4
    have BG := Lib.hid (grown_below hg4 (fun k hk => (own_cells OF.out hk).1) (Below.size (show Below _ _ _ from hHeld)))
    obtain ⟨A4, c4, rfl, hR4, -⟩ := own_slG ho4
    have R4 := Lib.hid hR4
    (refine hK.out _ _ (OldB.then2 hHeld BG.out) (fun hHeld2 => ?_); clear hK K hHeld; have hHeld := hHeld2; clear hHeld2; try simp only [gmS])
    (refine tkW 13 ?_; try simp only [gmS])
    have OQ : OldB u2 w4 := hHeld
    (refine wpAnyH_done (by kernel_rfl) ?_ _; refine NoPanic.normal ?_)
    go_wp2_with fail
    go_meet
    case rel => exact ⟨A4, c4, rfl, Lib.hid (by rw [← EC.out]; exact R4.out), Lib.hid OQ⟩
  case rest =>
    obtain ⟨A4, c4, rfl, R4, O4⟩ := hcut
    obtain ⟨y4, rfl⟩ : ∃ y, y = wc := ⟨_, rfl⟩
    have j2 : ∀ u, OldB y4 u → u.cell? ⟨b3, o3 + 2, none⟩ = some (.string (mkB (idK 2))) := fun u hu => i2 u (O4.out.then hu)
    have j3 : ∀ u, OldB y4 u → u.cell? ⟨b3, o3 + 3, none⟩ = some (.string (mkB (idK 3))) := fun u hu => i3 u (O4.out.then hu)
    have RL4 : Hid (∀ u, OldB y4 u → Rd u A2 (rvsL L0)) := Lib.hid (fun u hu => RL0.out u (O4.out.then hu))
    clear i2 i3
    go_upto_region 4 with fail
    go_cut [5] (fun s5 wx => ∃ A c, s5 = .slice A 6 c ∧ Hid (Rd wx A (rvsL (puppL v1 v2 v3))) ∧ Hid (OldB y4 wx))
    case first =>
      (refine wp_region_noPanic ?_; refine wp_region_held_drew (S := (OldB y4)) (by kernel_rfl) ?_ (fun hHeld => ?_); exact Below.drew (Below.refl _ _))
      generalize y4.drew = ud at *
      (refine tkW 1 ?_; try simp only [gmS])
      (refine tkW 3 ?_; try simp only [gmS])
      (refine tkW 4 ?_; try simp only [gmS])
      (refine tkW 5 ?_; try simp only [gmS])
      (refine tkW 7 ?_; try simp only [gmS])
      (refine tkW 8 ?_; try simp only [gmS])
      (refine tkW 9 ?_; try simp only [gmS])
      (refine tkW 11 ?_; try simp only [gmS])
      (refine tkW 12 ?_; try simp only [gmS])
      (refine tkW 13 ?_; try simp only [gmS])
      refine rdR 0 (fun K hK => ?_)
      go_simp
      have OE := Lib.hid (own_baseG (Below.size (show Below _ _ _ from hHeld)) (own_empty21 _ (cs := #[]) rfl 56))
      try simp only [World.size_alloc] at OE
      (refine hK.out _ _ (OldB.alloc hHeld _) (fun hHeld2 => ?_); clear hK K hHeld; have hHeld := hHeld2; clear hHeld2; try simp only [gmS])
      refine rdR 2 (fun K hK => ?_)
      refine wp_appF (.tmp 29) (.tmp 30) 22 rfl Tryz.underlying22 info_rec rfl (by decide) y4.heap.size _ 0 (rvsL []) A2 3 c2 (rvsL L0) ON0.out rfl rfl OE.out (RL4.out _ hHeld) LN0.out (Below.size (show Below _ _ _ from hHeld)) (by omega) (by omega) ?_
      intro v3 w3 ho3 hg3 hq3
      have BG := Lib.hid (grown_below hg3 (fun k hk => (own_cells OE.out hk).1) (Below.size (show Below _ _ _ from hHeld)))
      have OF := Lib.hid (own_castG ho3 (Nat.zero_add 3) (show rvsL [] ++ rvsL L0 = rvsL L0 from rfl))
      (refine hK.out _ _ (OldB.then2 hHeld BG.out) (fun hHeld2 => ?_); clear hK K hHeld; have hHeld := hHeld2; clear hHeld2; try simp only [gmS])
      refine rdR 6 (fun K hK => ?_)
      go_simp
      (with_reducible refine (M3.out _).mono ?_)
      rintro e z0 ⟨rfl, t0⟩
      have OF := Lib.hid (own_below OF.out t0 (Nat.le_refl _))
      (refine hK.out _ _ (OldB.then hHeld t0) (fun hHeld2 => ?_); clear hK K hHeld; have hHeld := hHeld2; clear hHeld2; try simp only [gmS])
      refine rdR 10 (fun K hK => ?_)
      go_simp
      (with_reducible refine (M4.out _).mono ?_)
      rintro e z1 ⟨rfl, t1⟩
      have OF := Lib.hid (own_below OF.out t1 (Nat.le_refl _))
      (refine hK.out _ _ (OldB.then hHeld t1) (fun hHeld2 => ?_); clear hK K hHeld; have hHeld := hHeld2; clear hHeld2; try simp only [gmS])
      refine rdR 14 (fun K hK => ?_)
      go_simp
      (with_reducible refine (M5.out _).mono ?_)
      rintro e z2 ⟨rfl, t2⟩
      have OF := Lib.hid (own_below OF.out t2 (Nat.le_refl _))
      (refine hK.out _ _ (OldB.then hHeld t2) (fun hHeld2 => ?_); clear hK K hHeld; have hHeld := hHeld2; clear hHeld2; try simp only [gmS])
      refine rdR 15 (fun K hK => ?_)
      refine wp_recs [markR 2 (idK 3) true, markR 3 (idK 2) true, markR 2 (idK 2) true] 3 _ rfl rfl (by decide) (by decide) (by kernel_rfl) ?_
      have LR := Lib.hid (litM_rd hHeld [markR 2 (idK 3) true, markR 3 (idK 2) true, markR 2 (idK 2) true])
      have OF := Lib.hid (own_below OF.out ((Below.refl _ _).alloc (Nat.le_refl _) (.cells (rvsL [markR 2 (idK 3) true, markR 3 (idK 2) true, markR 2 (idK 2) true]).toArray 56)) (Nat.le_refl _))
      (refine hK.out _ _ (OldB.alloc hHeld _) (fun hHeld2 => ?_); clear hK K hHeld; have hHeld := hHeld2; clear hHeld2; try simp only [gmS])
      refine rdR 16 (fun K hK => ?_)
      refine wp_appF (.tmp 31) (.tmp 44) 22 rfl Tryz.underlying22 info_rec rfl (by decide) y4.heap.size _ 3 (rvsL L0) _ 3 3 (rvsL [markR 2 (idK 3) true, markR 3 (idK 2) true, markR 2 (idK 2) true]) D2.out rfl rfl OF.out LR.out (rvsL_len _) (Below.size (show Below _ _ _ from hHeld)) (by omega) (by omega) ?_
      intro v4 w4 ho4 hg4 hq4
      have BG := Lib.hid (grown_below hg4 (fun k hk => (own_cells OF.out hk).1) (Below.size (show Below _ _ _ from hHeld)))
      obtain ⟨A4, c4, rfl, hR4, -⟩ := own_slG ho4
      have R4 := Lib.hid hR4
      (refine hK.out _ _ (OldB.then2 hHeld BG.out) (fun hHeld2 => ?_); clear hK K hHeld; have hHeld := hHeld2; clear hHeld2; try simp only [gmS])
      (refine tkW 17 ?_; try simp only [gmS])
      have OQ : OldB y4 w4 := hHeld
      (refine wpAnyH_done (by kernel_rfl) ?_ _; refine NoPanic.normal ?_)
      go_wp2_with fail
      go_meet
      case rel => exact ⟨A4, c4, rfl, Lib.hid (by rw [← EP.out]; exact R4.out), Lib.hid OQ⟩
    case rest =>
      obtain ⟨A5, c5, rfl, R5, O5⟩ := hcut
      obtain ⟨y5, rfl⟩ : ∃ y, y = wc := ⟨_, rfl⟩
      have O5u : Hid (OldB u2 y5) := Lib.hid (O4.out.then O5.out)
      have R4b := Lib.hid (R4.out.below O5.out)
      clear j2 j3 RL4 R4 O4 O5
      obtain ⟨bx, hbx⟩ : ∃ b, y5.heap.size = b := ⟨_, rfl⟩
      obtain ⟨X, hX⟩ : ∃ X, X = y5.alloc (.cells (rvL (revR (idK 1))).toArray 56) := ⟨_, rfl⟩
      have BX : OldB y5 X := by rw [hX]; exact (Below.refl _ _).alloc (Nat.le_refl _) _
      have XX : X.heap[bx]? = some (.cells (rvL (revR (idK 1))).toArray 56 (0, 0)) := by rw [hX, ← hbx]; exact heap_alloc_new y5 _
      have RX : Hid (∀ u, OldB X u → u.rangeAt bx 0 (rvL (revR (idK 1)))) := Lib.hid (fun u hu => by have := range_of_row ((hu.block bx (lt_of_block XX)).trans XX); simpa using this)
      have O6 : OldB u2 X := O5u.out.then BX
      have R4c := Lib.hid (R4b.out.below BX)
      have R5c := Lib.hid (R5.out.below BX)
      have j1 : ∀ u, OldB X u → u.cell? ⟨b3, o3 + 1, none⟩ = some (.string (mkB (idK 1))) := fun u hu => i1 u (O6.then hu)
      have RL6 : Hid (∀ u, OldB X u → Rd u A2 (rvsL L0)) := Lib.hid (fun u hu => RL0.out u (O6.then hu))
      have HX : Hid (X = y5.alloc (.cells (rvL (revR (idK 1))).toArray 56)) := Lib.hid hX
      have HBX := Lib.hid hbx
      obtain ⟨rr, hrr⟩ : ∃ r, r = revR (idK 1) := ⟨_, rfl⟩
      have HRR := Lib.hid hrr
      have ONR := Lib.hid (rvL_one (revR (idK 1)) ⟨y5, revR_is _ _⟩)
      have FSX := Lib.hid (fun z (hz : z.length = 21) => setCells_fresh y5 z (rvL (revR (idK 1))) hz rfl ONR.out)
      have THX : Hid (∀ z : List Value, z.length = 21 → (y5.alloc (.cells z.toArray 56)).there y5.heap.size 0 (rvL (revR (idK 1))).toArray.size) := Lib.hid (fun z hz => there_of_row (heap_alloc_new y5 _) (by rw [List.size_toArray, List.size_toArray, hz]; exact Nat.le_refl _))
      have i1c := i1 y5 O5u.out
      clear hX hbx BX XX R4b R5 i1
      go_upto_region 6 with (refine wpList_store_mid rfl 56 (.tmp 6) (.tmp 49) rfl y5.heap.size 0 (rvL (revR (idK 1))).toArray rfl rfl (THX.out _ rfl) (mrec_szA _) ONR.out ?_; rw [List.toList_toArray, FSX.out _ rfl, ← HX.out])
      rw [HBX.out]
      try simp only [gmS]
      clear HX HBX i1c FSX THX HRR hrr
      have SZR := mrec_szL (revR (idK 1))
      go_cut [7] (fun s7 wx => ∃ A c, s7 = .slice A 5 c ∧ Hid (Rd wx A (rvsL (revL v1 v2 v3))) ∧ Hid (OldB X wx))
      case first =>
        (refine wp_region_noPanic ?_; refine wp_region_held_drew (S := (OldB X)) (by kernel_rfl) ?_ (fun hHeld => ?_); exact Below.drew (Below.refl _ _))
        generalize X.drew = ud at *
        (refine tkW 1 ?_; try simp only [gmS])
        (refine tkW 3 ?_; try simp only [gmS])
        (refine tkW 4 ?_; try simp only [gmS])
        (refine tkW 5 ?_; try simp only [gmS])
        (refine ldW 7 56 (.tmp 6) bx 0 (rvL (revR (idK 1))) _ RX.out Tryz.underlying56 SZR ?_; try simp only [gmS])
        refine rdR 0 (fun K hK => ?_)
        go_simp
        have OE := Lib.hid (own_baseG (Below.size (show Below _ _ _ from hHeld)) (own_empty21 _ (cs := #[]) rfl 56))
        try simp only [World.size_alloc] at OE
        (refine hK.out _ _ (OldB.alloc hHeld _) (fun hHeld2 => ?_); clear hK K hHeld; have hHeld := hHeld2; clear hHeld2; try simp only [gmS])
        refine rdR 2 (fun K hK => ?_)
        refine wp_appF (.tmp 50) (.tmp 51) 22 rfl Tryz.underlying22 info_rec rfl (by decide) X.heap.size _ 0 (rvsL []) A2 3 c2 (rvsL L0) ON0.out rfl rfl OE.out (RL6.out _ hHeld) LN0.out (Below.size (show Below _ _ _ from hHeld)) (by omega) (by omega) ?_
        intro v3 w3 ho3 hg3 hq3
        have BG := Lib.hid (grown_below hg3 (fun k hk => (own_cells OE.out hk).1) (Below.size (show Below _ _ _ from hHeld)))
        have OF := Lib.hid (own_castG ho3 (Nat.zero_add 3) (show rvsL [] ++ rvsL L0 = rvsL L0 from rfl))
        (refine hK.out _ _ (OldB.then2 hHeld BG.out) (fun hHeld2 => ?_); clear hK K hHeld; have hHeld := hHeld2; clear hHeld2; try simp only [gmS])
        refine rdR 6 (fun K hK => ?_)
        go_simp
        (with_reducible refine (M1.out _).mono ?_)
        rintro e z0 ⟨rfl, t0⟩
        have OF := Lib.hid (own_below OF.out t0 (Nat.le_refl _))
        (refine hK.out _ _ (OldB.then hHeld t0) (fun hHeld2 => ?_); clear hK K hHeld; have hHeld := hHeld2; clear hHeld2; try simp only [gmS])
        refine rdR 8 (fun K hK => ?_)
        refine wp_recs [markR 0 (idK 1) true, revR (idK 1)] 2 _ rfl rfl (by decide) (by decide) (by kernel_rfl) ?_
        have LR := Lib.hid (litM_rd hHeld [markR 0 (idK 1) true, revR (idK 1)])
        have OF := Lib.hid (own_below OF.out ((Below.refl _ _).alloc (Nat.le_refl _) (.cells (rvsL [markR 0 (idK 1) true, revR (idK 1)]).toArray 56)) (Nat.le_refl _))
        (refine hK.out _ _ (OldB.alloc hHeld _) (fun hHeld2 => ?_); clear hK K hHeld; have hHeld := hHeld2; clear hHeld2; try simp only [gmS])
        refine rdR 9 (fun K hK => ?_)
        refine wp_appF (.tmp 52) (.tmp 58) 22 rfl Tryz.underlying22 info_rec rfl (by decide) X.heap.size _ 3 (rvsL L0) _ 2 2 (rvsL [markR 0 (idK 1) true, revR (idK 1)]) D3.out rfl rfl OF.out LR.out (rvsL_len _) (Below.size (show Below _ _ _ from hHeld)) (by omega) (by omega) ?_
        intro v4 w4 ho4 hg4 hq4
        have BG := Lib.hid (grown_below hg4 (fun k hk => (own_cells OF.out hk).1) (Below.size (show Below _ _ _ from hHeld)))
        obtain ⟨A4, c4, rfl, hR4, -⟩ := own_slG ho4
        have R4 := Lib.hid hR4
        (refine hK.out _ _ (OldB.then2 hHeld BG.out) (fun hHeld2 => ?_); clear hK K hHeld; have hHeld := hHeld2; clear hHeld2; try simp only [gmS])
        (refine tkW 10 ?_; try simp only [gmS])
        have OQ : OldB X w4 := hHeld
        (refine wpAnyH_done (by kernel_rfl) ?_ _; refine NoPanic.normal ?_)
        go_wp2_with fail
        go_meet
        case rel => exact ⟨A4, c4, rfl, Lib.hid (by rw [← ER.out]; exact R4.out), Lib.hid OQ⟩
      case rest =>
        obtain ⟨A7, c7, rfl, R7, O7⟩ := hcut
        obtain ⟨y7, rfl⟩ : ∃ y, y = wc := ⟨_, rfl⟩
        have O7u : OldB u2 y7 := O6.then O7.out
        have OW7 : OldB W y7 := O2.then O7u
        have IM : ∀ (u : World) (a : Int) (k : Int), RvIs u (markR a (idK k) true) ∧ RcSz (markR a (idK k) true).c := fun u a k => ⟨markR_is _ _ _ _, markR_sz (idK_len k)⟩
        have IC : ∀ u, OldB y7 u → ∀ r ∈ [chgK 1 v1, chgK 2 v2, chgK 3 v3], RvIs u r ∧ RcSz r.c := fun u hu => IS0.out u (O7u.then hu)
        have SC : Hid (∀ u, OldB y7 u → Rs u A4 (chainL v1 v2 v3)) := Lib.hid (fun u hu => rs_of ((R4c.out.below O7.out).below hu) (fun r hr => by
          unfold chainL at hr
          simp only [List.mem_cons, List.not_mem_nil, or_false] at hr
          rcases hr with rfl | rfl | rfl | rfl | rfl
          · exact IC u hu _ (by simp)
          · exact IC u hu _ (by simp)
          · exact IC u hu _ (by simp)
          · exact IM u _ _
          · exact IM u _ _) (by show 5 ≤ 1000; decide))
        have SP : Hid (∀ u, OldB y7 u → Rs u A5 (puppL v1 v2 v3)) := Lib.hid (fun u hu => rs_of ((R5c.out.below O7.out).below hu) (fun r hr => by
          unfold puppL at hr
          simp only [List.mem_cons, List.not_mem_nil, or_false] at hr
          rcases hr with rfl | rfl | rfl | rfl | rfl | rfl
          · exact IC u hu _ (by simp)
          · exact IC u hu _ (by simp)
          · exact IC u hu _ (by simp)
          · exact IM u _ _
          · exact IM u _ _
          · exact IM u _ _) (by show 6 ≤ 1000; decide))
        have SR : Hid (∀ u, OldB y7 u → Rs u A7 (revL v1 v2 v3)) := Lib.hid (fun u hu => rs_of (R7.out.below hu) (fun r hr => by
          unfold revL at hr
          simp only [List.mem_cons, List.not_mem_nil, or_false] at hr
          rcases hr with rfl | rfl | rfl | rfl | rfl
          · exact IC u hu _ (by simp)
          · exact IC u hu _ (by simp)
          · exact IC u hu _ (by simp)
          · exact IM u _ _
          · exact ⟨revR_is _ _, revR_sz (idK_len 1)⟩) (by show 5 ≤ 1000; decide))
        have WX : Hid (∀ u, OldB y7 u → WoIs u x) := Lib.hid (fun u hu => WIS.out u (OW7.then hu))
        have TX : Hid (∀ u, OldB y7 u → Tab u) := Lib.hid (fun u hu => TT.out u (OW7.then hu))
        have RW7 : Hid (∀ u, OldB y7 u → u.rangeAt bW 0 (woL x)) := Lib.hid (fun u hu => RWD.out u (OW7.then hu))
        have BW7 : Hid (∀ u, OldB y7 u → Below w.heap.size w u) := Lib.hid (fun u hu => BB.out u (OW7.then hu))
        have WH2 : Hid (Calls Tryz.prog 88 #[.slice A4 5 c4, .agg (woL x).toArray, .int .i64 2] y7 fun e w' => ∃ v, e = .returned v ∧ SlIs w' v 1 [.int .i64 1] ∧ Below y7.heap.size y7 w') := Lib.hid (by
          have := why_any A4 5 c4 (chainL v1 v2 v3) x 2 y7 rfl (SC.out y7 (Below.refl _ _)) (WX.out y7 (Below.refl _ _)) MWL.out KWL.out (TX.out y7 (Below.refl _ _)) (by rw [K4.out]; decide)
          rw [K4.out, (WU.out v1 v2 v3).1] at this
          exact this)
        have WH0 : Hid (∀ u, OldB y7 u → Calls Tryz.prog 88 #[.slice A4 5 c4, .agg (woL x).toArray, .int .i64 0] u fun e w' => ∃ v, e = .returned v ∧ SlIs w' v 0 [] ∧ Below u.heap.size u w') := Lib.hid (fun u hu => by
          have := why_any A4 5 c4 (chainL v1 v2 v3) x 0 u rfl (SC.out u hu) (WX.out u hu) MWL.out KWL.out (TX.out u hu) (by rw [K4.out]; decide)
          rw [K4.out, (WU.out v1 v2 v3).2] at this
          exact this)
        have TR4 : Hid (∀ u, OldB y7 u → Calls Tryz.prog 90 #[.slice A4 5 c4, .agg (woL x).toArray, .int .i64 4] u fun e w' => e = .returned (.bool false) ∧ Below u.heap.size u w') := Lib.hid (fun u hu => by
          have := trusted_any A4 5 c4 (chainL v1 v2 v3) x 4 u rfl (SC.out u hu) (WX.out u hu) MWL.out KWL.out (TX.out u hu)
          rw [show trT x (chainL v1 v2 v3) 4 = false from trP_out _ (by rw [lvT_len, K4.out]; decide)] at this
          exact this)
        have AR1 : Hid (∀ u, OldB y7 u → Calls Tryz.prog 89 #[.slice A4 5 c4, .agg (woL x).toArray, .slice (some ⟨u.heap.size, 0, none⟩) 4 4] (u.alloc (.cells #[.int .i64 1, .int .i64 2, .int .i64 3, .int .i64 0] 3)) fun e w' => e = .returned (.bool true) ∧ Below u.heap.size u w') := Lib.hid (fun u hu => hare A4 5 c4 (chainL v1 v2 v3) x [1, 2, 3, 0] u rfl (SC.out u hu) (WX.out u hu) MWL.out KWL.out (TX.out u hu) rfl (LC.out _ _ _))
        have AR2 : Hid (∀ u, OldB y7 u → Calls Tryz.prog 89 #[.slice A5 6 c5, .agg (woL x).toArray, .slice (some ⟨u.heap.size, 0, none⟩) 4 4] (u.alloc (.cells #[.int .i64 1, .int .i64 0, .int .i64 0, .int .i64 0] 3)) fun e w' => e = .returned (.bool true) ∧ Below u.heap.size u w') := Lib.hid (fun u hu => hare A5 6 c5 (puppL v1 v2 v3) x [1, 0, 0, 0] u rfl (SP.out u hu) (WX.out u hu) MWL.out KWL.out (TX.out u hu) rfl (LP.out _ _ _))
        have AR3 : Hid (∀ u, OldB y7 u → Calls Tryz.prog 89 #[.slice A7 5 c7, .agg (woL x).toArray, .slice (some ⟨u.heap.size, 0, none⟩) 4 4] (u.alloc (.cells #[.int .i64 1, .int .i64 0, .int .i64 0, .int .i64 0] 3)) fun e w' => e = .returned (.bool true) ∧ Below u.heap.size u w') := Lib.hid (fun u hu => hare A7 5 c7 (revL v1 v2 v3) x [1, 0, 0, 0] u rfl (SR.out u hu) (WX.out u hu) MWL.out KWL.out (TX.out u hu) rfl (LR9.out _ _ _))
        have S7 : OldB y7 y7 := Below.refl _ _
        clear SC SP SR WX TX R4c R5c R7 O7 IC IM EC EP ER RL0 RL6 ON0 LN0 IS0 M1 M2 M3 M4 M5 D1 D2 D3 j1 RX O6 O5u WU LC LP LR9 WIS TT RWD BB MWL KWL K4 SZR
        go_wp2_with (refine wpList_load_mid rfl 38 (.tmp 1) rfl bW 0 rfl (woL x) _ (RW7.out _ S7) Tryz.underlying38 rfl SZ ?_)
        (with_reducible refine WH2.out.mono ?_)
        rintro e q1 ⟨v, rfl, ⟨A8, c8, rfl, hR8⟩, b8⟩
        have P1 : OldB y7 q1 := b8
        obtain ⟨g8, f8, rfl, hb8, hc8⟩ := hR8 (by decide)
        have k8 : Hid (∀ u, OldB q1 u → u.cell? ⟨g8, f8, none⟩ = some (.int .i64 1)) := Lib.hid (fun u hu => (World.cell?_of_block (w := q1) (hu.block g8 hb8)).trans (by have := hc8 0 _ rfl; simpa using this))
        have A1' := Lib.hid (AR1.out q1 P1)
        clear b8 hc8 hb8 WH2 S7 AR1
        go_wp2_with (refine wpList_load_mid rfl 38 (.tmp 1) rfl bW 0 rfl (woL x) _ (RW7.out _ P1) Tryz.underlying38 rfl SZ ?_)
        (with_reducible refine A1'.out.mono ?_)
        rintro e q2 ⟨rfl, b2⟩
        have P2 : OldB q1 q2 := b2
        have P2y : OldB y7 q2 := P1.then P2
        have A2' := Lib.hid (AR2.out q2 P2y)
        clear b2 A1' AR2
        go_wp2_with (refine wpList_load_midG (by first | rfl | (simp [Region.wanted, yielded]; done)) 38 (.tmp 1) rfl bW 0 rfl (woL x) _ (RW7.out _ P2y) Tryz.underlying38 rfl SZ ?_)
        (with_reducible refine A2'.out.mono ?_)
        rintro e q3 ⟨rfl, b3'⟩
        have P3 : OldB q1 q3 := P2.then b3'
        have P3y : OldB y7 q3 := P1.then P3
        have A3' := Lib.hid (AR3.out q3 P3y)
        clear b3' A2' AR3 P2 P2y
        go_wp2_with (refine wpList_load_midG (by first | rfl | (simp [Region.wanted, yielded]; done)) 38 (.tmp 1) rfl bW 0 rfl (woL x) _ (RW7.out _ P3y) Tryz.underlying38 rfl SZ ?_)
        (with_reducible refine A3'.out.mono ?_)
        rintro e q4 ⟨rfl, b4'⟩
        have P4 : OldB q1 q4 := P3.then b4'
        have P4y : OldB y7 q4 := P1.then P4
        have k8q := k8.out q4 P4
        have WH0' := Lib.hid (WH0.out q4 P4y)
        clear b4' A3' WH0 P3 P3y k8
        go_wp2_with (refine wpList_load_midG (by first | rfl | (simp [Region.wanted, yielded]; done)) 38 (.tmp 1) rfl bW 0 rfl (woL x) _ (RW7.out _ P4y) Tryz.underlying38 rfl SZ ?_)
        (with_reducible refine WH0'.out.mono ?_)
        rintro e q5 ⟨v, rfl, ⟨A9, c9, rfl, -⟩, b5'⟩
        have P5y : OldB y7 q5 := P4y.then b5'
        have TR4' := Lib.hid (TR4.out q5 P5y)
        clear b5' WH0' TR4 P4 P4y k8q
        go_wp2_with (refine wpList_load_midG (by first | rfl | (simp [Region.wanted, yielded]; done)) 38 (.tmp 1) rfl bW 0 rfl (woL x) _ (RW7.out _ P5y) Tryz.underlying38 rfl SZ ?_)
        (with_reducible refine TR4'.out.mono ?_)
        rintro e q6 ⟨rfl, b6'⟩
        have F6 := Lib.hid (BW7.out q6 (P5y.then b6'))
        clear b6' TR4' P5y RW7 BW7
        go_wp2_with fail
        go_ret
        exact ⟨rfl, F6.out⟩
end Go.Proofs.YtniklmikdkjgiaaGreatDoor
