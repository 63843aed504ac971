import Derived.Test.YtniklmikdkjgiaaGreatDoorcXD
import Derived.OrdersHeld
import Derived.Test.YtniklmikdkjgiaaGreatDoorWD
set_option linter.all false
set_option maxHeartbeats 16000000
set_option maxRecDepth 100000
namespace Go.Proofs.YtniklmikdkjgiaaGreatDoor
open Go.RowKit Go.Maps Go.ChangeMaps Go.MapKept Go.WideShapes Go.WideMaps
def OldB (W w' : World) : Prop := Below W.heap.size W w'
theorem OldB.then {W a b : World} (h : OldB W a) (k : Below a.heap.size a b) : OldB W b := Below.trans h (k.mono (Below.size h))
theorem wordF_ne {k : Int} : (wordF k == []) = !At.kindB k := by
  by_cases h : 1 ≤ k ∧ k ≤ 5
  · have hk : At.kindB k = true := by unfold At.kindB; rw [decide_eq_true h.1, decide_eq_true h.2]; rfl
    rw [hk]
    rcases (show k = 1 ∨ k = 2 ∨ k = 3 ∨ k = 4 ∨ k = 5 by omega) with rfl | rfl | rfl | rfl | rfl <;> rfl
  · have hk : At.kindB k = false := by
      unfold At.kindB
      cases h1 : decide (1 ≤ k)
      · rfl
      · cases h2 : decide (k ≤ 5)
        · rfl
        · exact absurd ⟨of_decide_eq_true h1, of_decide_eq_true h2⟩ h
    rw [hk, word_out hk]; rfl
theorem valid_any (o : RO) (w : World) (h : ObIs w o) (hs : ObSz o.c) (hr : o.c.refs.length ≤ 100000) :
    Calls Tryz.prog 196 #[roA o] w fun e w' => e = .returned (.bool (At.validO o.c)) ∧ Below w.heap.size w w' := by
  obtain ⟨⟨A1, c1, v1, r1⟩, ⟨A2, c2, v2, r2⟩⟩ := h
  obtain ⟨W, hW⟩ : ∃ W, W = w.alloc (.cells #[.string (mkB o.c.id), .int .i64 o.c.kind, .int .i64 o.c.x, .int .i64 o.c.y, o.rv, o.tv] 91) := ⟨_, rfl⟩
  have HX : Hid (W.heap[w.heap.size]? = some (.cells #[.string (mkB o.c.id), .int .i64 o.c.kind, .int .i64 o.c.x, .int .i64 o.c.y, o.rv, o.tv] 91 (0, 0))) := Lib.hid (by rw [hW]; exact heap_alloc_new w _)
  have HB : Below w.heap.size w W := by rw [hW]; exact (Below.refl _ _).alloc (Nat.le_refl _) _
  have HZ : W.heap.size = w.heap.size + 1 := by rw [hW]; simp
  have VO : Hid (At.validO o.c = (At.kindB o.c.kind && At.nameB o.c.id && At.tagsB o.c.tags && decide (At.leastF o.c.kind ≤ o.c.refs.length) && decide (o.c.refs.length ≤ 2000) && At.refsFrom o.c.kind [] [] o.c.refs && At.formB o.c)) := Lib.hid rfl
  have WD : Hid (∀ u, Calls Tryz.prog 199 #[.int .i64 o.c.kind] u fun e w' => e = .returned (.string (mkB (wordF o.c.kind))) ∧ Below u.heap.size u w') := Lib.hid (fun u => word_any _ u)
  have ND : Hid (∀ u, Calls Tryz.prog 82 #[.string (mkB o.c.id)] u fun e w' => e = .returned (.bool (At.nameB o.c.id)) ∧ Below u.heap.size u w') := Lib.hid (fun u => name_any _ u (Nat.le_trans hs.id (by decide)))
  have TD : Hid (∀ u, OldB W u → Calls Tryz.prog 215 #[.slice A2 o.c.tags.length c2] u fun e w' => e = .returned (.bool (At.tagsB o.c.tags)) ∧ Below u.heap.size u w') := Lib.hid (fun u hu => tagv_any A2 c2 _ _ u rfl hs.tags hs.tag (r2.below (HB.trans (Below.mono hu HB.size))))
  have LD : Hid (At.kindB o.c.kind = true → ∀ u, Calls Tryz.prog 216 #[.int .i64 o.c.kind] u fun e w' => e = .returned (.int .i64 (At.leastF o.c.kind : Int)) ∧ w' = u) := Lib.hid (fun hk u => least_any _ u hk)
  have KW := wordF_ne (k := o.c.kind)
  have tw := mkB_tl (wordF o.c.kind)
  have te := mkB_tl []
  have em : (ByteArray.mk #[]) = mkB [] := rfl
  have HBH := Lib.hid HB
  have R1 := Lib.hid r1
  unfold roA
  have k0 : ∀ u, OldB W u → u.cell? ⟨w.heap.size, 0, none⟩ = some (.string (mkB o.c.id)) := fun u hu => by have := cell_of_row u w.heap.size 0 _ _ _ ((hu.block _ (by omega)).trans HX.out); simpa using this
  have k1 : ∀ u, OldB W u → u.cell? ⟨w.heap.size, 1, none⟩ = some (.int .i64 o.c.kind) := fun u hu => by have := cell_of_row u w.heap.size 1 _ _ _ ((hu.block _ (by omega)).trans HX.out); simpa using this
  have k4 : ∀ u, OldB W u → u.cell? ⟨w.heap.size, 4, none⟩ = some (.slice A1 o.c.refs.length c1) := fun u hu => by have := cell_of_row u w.heap.size 4 _ _ _ ((hu.block _ (by omega)).trans HX.out); rw [v1] at this; simpa using this
  have k5 : ∀ u, OldB W u → u.cell? ⟨w.heap.size, 5, none⟩ = some (.slice A2 o.c.tags.length c2) := fun u hu => by have := cell_of_row u w.heap.size 5 _ _ _ ((hu.block _ (by omega)).trans HX.out); rw [v2] at this; simpa using this
  have SZ := Lib.hid hs
  clear r1 r2 HB
  have hW2 := hW
  rw [v1, v2] at hW2 ⊢
  clear hW
  go_enter Tryz.func196, Tryz.ntmps196
  go_upto_region 1 with fail
  rw [← hW2]
  clear hW2 hs
  generalize hR : At.validO o.c = R at *
  generalize hbo : w.heap.size = bo at *
  cases hKd : At.kindB o.c.kind
  · have RF : Hid (R = false) := Lib.hid (by rw [VO.out, hKd]; rfl)
    rw [hKd] at KW
    (refine wp_region_noPanic ?_; refine wp_region_held_drew (S := (OldB W)) (by kernel_rfl) ?_ (fun hHeld => ?_); exact Below.drew (Below.refl _ _))
    (refine tkW 0 ?_; try simp only [gmS])
    (refine tkW 1 ?_; try simp only [gmS])
    (refine rdW 2 (fun K hK => ?_); go_simp)
    refine (WD.out _).mono ?_
    rintro e u1 ⟨rfl, b1⟩
    (refine hK.out _ _ (OldB.then hHeld b1) (fun hHeld2 => ?_); clear hK K hHeld; have hHeld := hHeld2; clear hHeld2; try simp only [gmS])
    (refine tkW 3 ?_; try simp only [gmS])
    (refine tkW 4 ?_; try simp only [gmS])
    (refine skW 5 ?_; try simp only [gmS])
    (refine skW 6 ?_; try simp only [gmS])
    (refine skW 7 ?_; try simp only [gmS])
    (refine skW 8 ?_; try simp only [gmS])
    (refine tkW 9 ?_; try simp only [gmS])
    (refine tkW 10 ?_; try simp only [gmS])
    (refine skW 11 ?_; try simp only [gmS])
    (refine skW 12 ?_; try simp only [gmS])
    (refine skW 13 ?_; try simp only [gmS])
    (refine skW 14 ?_; try simp only [gmS])
    (refine tkW 15 ?_; try simp only [gmS])
    (refine tkW 16 ?_; try simp only [gmS])
    (refine skW 17 ?_; try simp only [gmS])
    (refine skW 18 ?_; try simp only [gmS])
    (refine skW 19 ?_; try simp only [gmS])
    (refine skW 20 ?_; try simp only [gmS])
    (refine skW 21 ?_; try simp only [gmS])
    (refine skW 22 ?_; try simp only [gmS])
    (refine skW 23 ?_; try simp only [gmS])
    (refine tkW 24 ?_; try simp only [gmS])
    (refine tkW 25 ?_; try simp only [gmS])
    (refine skW 26 ?_; try simp only [gmS])
    (refine skW 27 ?_; try simp only [gmS])
    (refine skW 28 ?_; try simp only [gmS])
    (refine skW 29 ?_; try simp only [gmS])
    (refine tkW 30 ?_; try simp only [gmS])
    have HH := Lib.hid hHeld
    (refine wpAnyH_done (by kernel_rfl) ?_ _; refine NoPanic.normal ?_)
    clear hHeld
    go_wp2_with fail
    go_ret
    exact ⟨by rw [hR, RF.out]; rfl, by rw [hbo]; exact HBH.out.trans (Below.mono HH.out (by rw [← hbo]; exact HBH.out.size))⟩
  · rw [hKd] at KW
    cases hN : At.nameB o.c.id
    · have RF : Hid (R = false) := Lib.hid (by rw [VO.out, hKd, hN]; rfl)
      rw [hN] at ND
      (refine wp_region_noPanic ?_; refine wp_region_held_drew (S := (OldB W)) (by kernel_rfl) ?_ (fun hHeld => ?_); exact Below.drew (Below.refl _ _))
      (refine tkW 0 ?_; try simp only [gmS])
      (refine tkW 1 ?_; try simp only [gmS])
      (refine rdW 2 (fun K hK => ?_); go_simp)
      refine (WD.out _).mono ?_
      rintro e u1 ⟨rfl, b1⟩
      (refine hK.out _ _ (OldB.then hHeld b1) (fun hHeld2 => ?_); clear hK K hHeld; have hHeld := hHeld2; clear hHeld2; try simp only [gmS])
      (refine tkW 3 ?_; try simp only [gmS])
      (refine tkW 4 ?_; try simp only [gmS])
      (refine tkW 5 ?_; try simp only [gmS])
      (refine tkW 6 ?_; try simp only [gmS])
      (refine rdW 7 (fun K hK => ?_); go_simp)
      refine (ND.out _).mono ?_
      rintro e u2 ⟨rfl, b2⟩
      (refine hK.out _ _ (OldB.then hHeld b2) (fun hHeld2 => ?_); clear hK K hHeld; have hHeld := hHeld2; clear hHeld2; try simp only [gmS])
      (refine tkW 8 ?_; try simp only [gmS])
      (refine tkW 9 ?_; try simp only [gmS])
      (refine tkW 10 ?_; try simp only [gmS])
      (refine skW 11 ?_; try simp only [gmS])
      (refine skW 12 ?_; try simp only [gmS])
      (refine skW 13 ?_; try simp only [gmS])
      (refine skW 14 ?_; try simp only [gmS])
      (refine tkW 15 ?_; try simp only [gmS])
      (refine tkW 16 ?_; try simp only [gmS])
      (refine skW 17 ?_; try simp only [gmS])
      (refine skW 18 ?_; try simp only [gmS])
      (refine skW 19 ?_; try simp only [gmS])
      (refine skW 20 ?_; try simp only [gmS])
      (refine skW 21 ?_; try simp only [gmS])
      (refine skW 22 ?_; try simp only [gmS])
      (refine skW 23 ?_; try simp only [gmS])
      (refine tkW 24 ?_; try simp only [gmS])
      (refine tkW 25 ?_; try simp only [gmS])
      (refine skW 26 ?_; try simp only [gmS])
      (refine skW 27 ?_; try simp only [gmS])
      (refine skW 28 ?_; try simp only [gmS])
      (refine skW 29 ?_; try simp only [gmS])
      (refine tkW 30 ?_; try simp only [gmS])
      have HH := Lib.hid hHeld
      (refine wpAnyH_done (by kernel_rfl) ?_ _; refine NoPanic.normal ?_)
      clear hHeld
      go_wp2_with fail
      go_ret
      exact ⟨by rw [hR, RF.out]; rfl, by rw [hbo]; exact HBH.out.trans (Below.mono HH.out (by rw [← hbo]; exact HBH.out.size))⟩
    · rw [hN] at ND
      cases hT : At.tagsB o.c.tags
      · have RF : Hid (R = false) := Lib.hid (by rw [VO.out, hKd, hN, hT]; rfl)
        rw [hT] at TD
        (refine wp_region_noPanic ?_; refine wp_region_held_drew (S := (OldB W)) (by kernel_rfl) ?_ (fun hHeld => ?_); exact Below.drew (Below.refl _ _))
        (refine tkW 0 ?_; try simp only [gmS])
        (refine tkW 1 ?_; try simp only [gmS])
        (refine rdW 2 (fun K hK => ?_); go_simp)
        refine (WD.out _).mono ?_
        rintro e u1 ⟨rfl, b1⟩
        (refine hK.out _ _ (OldB.then hHeld b1) (fun hHeld2 => ?_); clear hK K hHeld; have hHeld := hHeld2; clear hHeld2; try simp only [gmS])
        (refine tkW 3 ?_; try simp only [gmS])
        (refine tkW 4 ?_; try simp only [gmS])
        (refine tkW 5 ?_; try simp only [gmS])
        (refine tkW 6 ?_; try simp only [gmS])
        (refine rdW 7 (fun K hK => ?_); go_simp)
        refine (ND.out _).mono ?_
        rintro e u2 ⟨rfl, b2⟩
        (refine hK.out _ _ (OldB.then hHeld b2) (fun hHeld2 => ?_); clear hK K hHeld; have hHeld := hHeld2; clear hHeld2; try simp only [gmS])
        (refine tkW 8 ?_; try simp only [gmS])
        (refine tkW 9 ?_; try simp only [gmS])
        (refine tkW 10 ?_; try simp only [gmS])
        (refine tkW 11 ?_; try simp only [gmS])
        (refine tkW 12 ?_; try simp only [gmS])
        (refine rdW 13 (fun K hK => ?_); go_simp)
        refine (TD.out _ hHeld).mono ?_
        rintro e u3 ⟨rfl, b3⟩
        (refine hK.out _ _ (OldB.then hHeld b3) (fun hHeld2 => ?_); clear hK K hHeld; have hHeld := hHeld2; clear hHeld2; try simp only [gmS])
        (refine tkW 14 ?_; try simp only [gmS])
        (refine tkW 15 ?_; try simp only [gmS])
        (refine tkW 16 ?_; try simp only [gmS])
        (refine skW 17 ?_; try simp only [gmS])
        (refine skW 18 ?_; try simp only [gmS])
        (refine skW 19 ?_; try simp only [gmS])
        (refine skW 20 ?_; try simp only [gmS])
        (refine skW 21 ?_; try simp only [gmS])
        (refine skW 22 ?_; try simp only [gmS])
        (refine skW 23 ?_; try simp only [gmS])
        (refine tkW 24 ?_; try simp only [gmS])
        (refine tkW 25 ?_; try simp only [gmS])
        (refine skW 26 ?_; try simp only [gmS])
        (refine skW 27 ?_; try simp only [gmS])
        (refine skW 28 ?_; try simp only [gmS])
        (refine skW 29 ?_; try simp only [gmS])
        (refine tkW 30 ?_; try simp only [gmS])
        have HH := Lib.hid hHeld
        (refine wpAnyH_done (by kernel_rfl) ?_ _; refine NoPanic.normal ?_)
        clear hHeld
        go_wp2_with fail
        go_ret
        exact ⟨by rw [hR, RF.out]; rfl, by rw [hbo]; exact HBH.out.trans (Below.mono HH.out (by rw [← hbo]; exact HBH.out.size))⟩
      · rw [hT] at TD
        by_cases hL : At.leastF o.c.kind ≤ o.c.refs.length
        · have g1 : decide ((o.c.refs.length : Int) < (At.leastF o.c.kind : Int)) = false := by simp; omega
          have g2 : decide (o.c.refs.length < At.leastF o.c.kind) = false := by simp; omega
          by_cases hM : o.c.refs.length ≤ 2000
          · have g3 : decide ((2000 : Int) < (o.c.refs.length : Int)) = false := by simp; omega
            have g4 : decide (2000 < o.c.refs.length) = false := by simp; omega
            have VR : Hid (R = (At.refsFrom o.c.kind [] [] o.c.refs && At.formB o.c)) := Lib.hid (by rw [VO.out, hKd, hN, hT, decide_eq_true hL, decide_eq_true hM]; rfl)
            (refine wp_region_noPanic ?_; refine wp_region_held_drew (S := (OldB W)) (by kernel_rfl) ?_ (fun hHeld => ?_); exact Below.drew (Below.refl _ _))
            (refine tkW 0 ?_; try simp only [gmS])
            (refine tkW 1 ?_; try simp only [gmS])
            (refine rdW 2 (fun K hK => ?_); go_simp)
            refine (WD.out _).mono ?_
            rintro e u1 ⟨rfl, b1⟩
            (refine hK.out _ _ (OldB.then hHeld b1) (fun hHeld2 => ?_); clear hK K hHeld; have hHeld := hHeld2; clear hHeld2; try simp only [gmS])
            (refine tkW 3 ?_; try simp only [gmS])
            (refine tkW 4 ?_; try simp only [gmS])
            (refine tkW 5 ?_; try simp only [gmS])
            (refine tkW 6 ?_; try simp only [gmS])
            (refine rdW 7 (fun K hK => ?_); go_simp)
            refine (ND.out _).mono ?_
            rintro e u2 ⟨rfl, b2⟩
            (refine hK.out _ _ (OldB.then hHeld b2) (fun hHeld2 => ?_); clear hK K hHeld; have hHeld := hHeld2; clear hHeld2; try simp only [gmS])
            (refine tkW 8 ?_; try simp only [gmS])
            (refine tkW 9 ?_; try simp only [gmS])
            (refine tkW 10 ?_; try simp only [gmS])
            (refine tkW 11 ?_; try simp only [gmS])
            (refine tkW 12 ?_; try simp only [gmS])
            (refine rdW 13 (fun K hK => ?_); go_simp)
            refine (TD.out _ hHeld).mono ?_
            rintro e u3 ⟨rfl, b3⟩
            (refine hK.out _ _ (OldB.then hHeld b3) (fun hHeld2 => ?_); clear hK K hHeld; have hHeld := hHeld2; clear hHeld2; try simp only [gmS])
            (refine tkW 14 ?_; try simp only [gmS])
            (refine tkW 15 ?_; try simp only [gmS])
            (refine tkW 16 ?_; try simp only [gmS])
            (refine tkW 17 ?_; try simp only [gmS])
            (refine tkW 18 ?_; try simp only [gmS])
            (refine tkW 19 ?_; try simp only [gmS])
            (refine tkW 20 ?_; try simp only [gmS])
            (refine tkW 21 ?_; try simp only [gmS])
            (refine rdW 22 (fun K hK => ?_); go_simp)
            refine (LD.out hKd _).mono ?_
            rintro e u4 ⟨rfl, rfl⟩
            (refine hK.out _ _ hHeld (fun hHeld2 => ?_); clear hK K hHeld; have hHeld := hHeld2; clear hHeld2; try simp only [gmS])
            (refine tkW 23 ?_; try simp only [gmS])
            (refine tkW 24 ?_; try simp only [gmS])
            (refine tkW 25 ?_; try simp only [gmS])
            (refine tkW 26 ?_; try simp only [gmS])
            (refine tkW 27 ?_; try simp only [gmS])
            (refine tkW 28 ?_; try simp only [gmS])
            (refine tkW 29 ?_; try simp only [gmS])
            (refine tkW 30 ?_; try simp only [gmS])
            have HH := Lib.hid hHeld
            (refine wpAnyH_done (by kernel_rfl) ?_ _; refine NoPanic.normal ?_)
            clear hHeld VO WD ND TD LD
            subst hbo
            have h2 : ∀ u : World, (Instr.makeMap 62 none).run Tryz.prog u = .ok (.map (some u.heap.size)) (u.alloc (.map #[] 0)) := fun u => run_makeMap _ _
            have gz : w.heap.size + 1 ≤ u4.heap.size := by rw [← HZ]; exact HH.out.size
            obtain ⟨X, hX⟩ : ∃ X, X = ((u4.alloc (.map #[] 0)).alloc (.cells #[.map (some u4.heap.size)] 62)).alloc (.cells #[.string (mkB [])] 9) := ⟨_, rfl⟩
            have WR : Hid (Wr X w.heap.size (u4.heap.size + 1 + 1) (u4.heap.size + 1) u4.heap.size o [] [] 0) := Lib.hid (by
              rw [hX]
              refine ⟨?_, ?_, ?_, ?_, by omega⟩
              · exact (alloc_old _ _ (by simp; omega)).trans ((alloc_old _ _ (by simp; omega)).trans ((alloc_old _ _ (by omega)).trans ((HH.out.block _ (by omega)).trans HX.out)))
              · exact alloc_new' _ _ _ (by simp)
              · exact (alloc_old _ _ (by simp)).trans (alloc_new' _ _ _ (by simp))
              · have hm := MapAt.made u4 Tryz.prog 9
                rw [show (fun _ => none : Lit → Option Value) = seenM [] by funext x; cases x <;> simp [seenM]] at hm
                exact hm.same ((alloc_old _ _ (by simp; omega)).trans (alloc_old _ _ (by simp))))
            have OX : OldB u4 X := by
              rw [hX]
              exact (((Below.refl u4.heap.size u4).alloc (Nat.le_refl _) _).alloc (by simp) _).alloc (by simp; omega) _
            have OW : OldB W X := HH.out.then OX
            have k4x := k4 X OW
            have BX : Hid (Below w.heap.size w X) := Lib.hid (HBH.out.trans (Below.mono OW HBH.out.size))
            have HS := Lib.hid (hass_any A1 o.c.refs.length c1 o.c.refs w.heap.size (u4.heap.size + 1 + 1) (u4.heap.size + 1) u4.heap.size o [] [] 0 w X rfl hr SZ.out.ref R1.out WR.out (by omega) BX.out (by omega) (by omega))
            have XZ : X.heap.size = u4.heap.size + 3 := by rw [hX]; simp
            have K1 := fun u hu => Lib.hid (k1 u hu)
            have ON := fun u => Lib.hid (on_any o.c.x o.c.y u)
            have FB : Hid (At.formB o.c = if o.c.kind = 1 then decide (o.c.refs.length = 0) && At.onB o.c.x o.c.y else if o.c.kind = 5 then decide (o.c.refs.length = 3) && (decide (o.c.x = 0) && decide (o.c.y = 0)) else (decide (o.c.x = 0) && decide (o.c.y = 0))) := Lib.hid rfl
            clear k0 k1 k5 OX
            go_upto_region 6 with fail
            rw [← hX]
            clear hX
            go_wp2_with fail
            refine HS.out.mono ?_
            rintro e x1 ⟨rfl, bt⟩
            have y0 : x1.heap[w.heap.size]? = some (.cells #[.string (mkB o.c.id), .int .i64 o.c.kind, .int .i64 o.c.x, .int .i64 o.c.y, o.rv, o.tv] 91 (0, 0)) := (bt.block _ (by omega) (by omega)).trans WR.out.box
            have BT := Lib.hid (BX.out.trans (bt.below (B := w.heap.size) BX.out.size (fun b hb => by rcases hb with rfl | rfl <;> omega)))
            have y1 := cell_of_row x1 w.heap.size 1 _ _ _ y0
            have y2 := cell_of_row x1 w.heap.size 2 _ _ _ y0
            have y3 := cell_of_row x1 w.heap.size 3 _ _ _ y0
            have y4 := cell_of_row x1 w.heap.size 4 _ _ _ y0
            rw [v1] at y4
            simp at y1 y2 y3 y4
            clear bt y0 WR HS k4x k4 K1 HX
            cases hRF : At.refsFrom o.c.kind [] [] o.c.refs
            · have RF : Hid (R = false) := Lib.hid (by rw [VR.out, hRF]; rfl)
              go_wp2_with fail
              go_ret
              exact ⟨by rw [hR, RF.out]; rfl, BT.out⟩
            · have VR2 : Hid (R = At.formB o.c) := Lib.hid (by rw [VR.out, hRF]; rfl)
              rw [FB.out] at VR2
              clear VR FB
              by_cases q1 : o.c.kind = 1
              · rw [if_pos q1] at VR2
                rw [q1] at y1
                by_cases n0 : o.c.refs.length = 0
                · have e0 : ((o.c.refs.length : Int) == 0) = true := by rw [n0]; rfl
                  rw [decide_eq_true n0] at VR2
                  have VR3 : Hid (R = At.onB o.c.x o.c.y) := Lib.hid VR2.out
                  clear VR2 n0
                  go_wp2_with fail
                  refine (ON _).out.mono ?_
                  rintro e x2 ⟨rfl, b9⟩
                  have B9 := Lib.hid (BT.out.trans (b9.mono BT.out.size))
                  clear b9
                  go_wp2_with fail
                  go_ret
                  exact ⟨by rw [hR, VR3.out]; rfl, B9.out⟩
                · have e0 : ((o.c.refs.length : Int) == 0) = false := by simpa using n0
                  rw [decide_eq_false n0] at VR2
                  have VR3 : Hid (R = false) := Lib.hid VR2.out
                  clear VR2 n0
                  go_wp2_with fail
                  go_ret
                  exact ⟨by rw [hR, VR3.out]; rfl, BT.out⟩
              · have e1 : (o.c.kind == 1) = false := by simpa using q1
                rw [if_neg q1] at VR2
                by_cases q5 : o.c.kind = 5
                · rw [if_pos q5] at VR2
                  rw [q5] at y1
                  by_cases n3 : o.c.refs.length = 3
                  · have e0 : ((o.c.refs.length : Int) == 3) = true := by rw [n3]; rfl
                    rw [decide_eq_true n3] at VR2
                    clear n3 q1
                    by_cases qx : o.c.x = 0
                    · have ex : (o.c.x == 0) = true := by rw [qx]; rfl
                      have VR3 : Hid (R = decide (o.c.y = 0)) := Lib.hid (by rw [VR2.out, decide_eq_true qx]; rfl)
                      clear VR2 qx
                      by_cases qy : o.c.y = 0
                      · have ey : (o.c.y == 0) = true := by rw [qy]; rfl
                        rw [decide_eq_true qy] at VR3
                        clear qy
                        go_wp2_with fail
                        go_ret
                        exact ⟨by rw [hR, VR3.out]; rfl, BT.out⟩
                      · have ey : (o.c.y == 0) = false := by simpa using qy
                        rw [decide_eq_false qy] at VR3
                        clear qy
                        go_wp2_with fail
                        go_ret
                        exact ⟨by rw [hR, VR3.out]; rfl, BT.out⟩
                    · have ex : (o.c.x == 0) = false := by simpa using qx
                      have VR3 : Hid (R = false) := Lib.hid (by rw [VR2.out, decide_eq_false qx]; rfl)
                      clear VR2 qx
                      go_wp2_with fail
                      go_ret
                      exact ⟨by rw [hR, VR3.out]; rfl, BT.out⟩
                  · have e0 : ((o.c.refs.length : Int) == 3) = false := by simp; omega
                    have VR3 : Hid (R = false) := Lib.hid (by rw [VR2.out, decide_eq_false n3]; rfl)
                    clear VR2 n3 q1
                    go_wp2_with fail
                    go_ret
                    exact ⟨by rw [hR, VR3.out]; rfl, BT.out⟩
                · have e5 : (o.c.kind == 5) = false := by simpa using q5
                  rw [if_neg q5] at VR2
                  clear q1 q5
                  by_cases qx : o.c.x = 0
                  · have ex : (o.c.x == 0) = true := by rw [qx]; rfl
                    have VR3 : Hid (R = decide (o.c.y = 0)) := Lib.hid (by rw [VR2.out, decide_eq_true qx]; rfl)
                    clear VR2 qx
                    by_cases qy : o.c.y = 0
                    · have ey : (o.c.y == 0) = true := by rw [qy]; rfl
                      rw [decide_eq_true qy] at VR3
                      clear qy
                      go_wp2_with fail
                      go_ret
                      exact ⟨by rw [hR, VR3.out]; rfl, BT.out⟩
                    · have ey : (o.c.y == 0) = false := by simpa using qy
                      rw [decide_eq_false qy] at VR3
                      clear qy
                      go_wp2_with fail
                      go_ret
                      exact ⟨by rw [hR, VR3.out]; rfl, BT.out⟩
                  · have ex : (o.c.x == 0) = false := by simpa using qx
                    have VR3 : Hid (R = false) := Lib.hid (by rw [VR2.out, decide_eq_false qx]; rfl)
                    clear VR2 qx
                    go_wp2_with fail
                    go_ret
                    exact ⟨by rw [hR, VR3.out]; rfl, BT.out⟩
          · have RF : Hid (R = false) := Lib.hid (by rw [VO.out, hKd, hN, hT, decide_eq_true hL, decide_eq_false hM]; rfl)
            have g3 : decide ((2000 : Int) < (o.c.refs.length : Int)) = true := by simp; omega
            have g4 : decide (2000 < o.c.refs.length) = true := by simp; omega
            (refine wp_region_noPanic ?_; refine wp_region_held_drew (S := (OldB W)) (by kernel_rfl) ?_ (fun hHeld => ?_); exact Below.drew (Below.refl _ _))
            (refine tkW 0 ?_; try simp only [gmS])
            (refine tkW 1 ?_; try simp only [gmS])
            (refine rdW 2 (fun K hK => ?_); go_simp)
            refine (WD.out _).mono ?_
            rintro e u1 ⟨rfl, b1⟩
            (refine hK.out _ _ (OldB.then hHeld b1) (fun hHeld2 => ?_); clear hK K hHeld; have hHeld := hHeld2; clear hHeld2; try simp only [gmS])
            (refine tkW 3 ?_; try simp only [gmS])
            (refine tkW 4 ?_; try simp only [gmS])
            (refine tkW 5 ?_; try simp only [gmS])
            (refine tkW 6 ?_; try simp only [gmS])
            (refine rdW 7 (fun K hK => ?_); go_simp)
            refine (ND.out _).mono ?_
            rintro e u2 ⟨rfl, b2⟩
            (refine hK.out _ _ (OldB.then hHeld b2) (fun hHeld2 => ?_); clear hK K hHeld; have hHeld := hHeld2; clear hHeld2; try simp only [gmS])
            (refine tkW 8 ?_; try simp only [gmS])
            (refine tkW 9 ?_; try simp only [gmS])
            (refine tkW 10 ?_; try simp only [gmS])
            (refine tkW 11 ?_; try simp only [gmS])
            (refine tkW 12 ?_; try simp only [gmS])
            (refine rdW 13 (fun K hK => ?_); go_simp)
            refine (TD.out _ hHeld).mono ?_
            rintro e u3 ⟨rfl, b3⟩
            (refine hK.out _ _ (OldB.then hHeld b3) (fun hHeld2 => ?_); clear hK K hHeld; have hHeld := hHeld2; clear hHeld2; try simp only [gmS])
            (refine tkW 14 ?_; try simp only [gmS])
            (refine tkW 15 ?_; try simp only [gmS])
            (refine tkW 16 ?_; try simp only [gmS])
            (refine tkW 17 ?_; try simp only [gmS])
            (refine tkW 18 ?_; try simp only [gmS])
            (refine tkW 19 ?_; try simp only [gmS])
            (refine tkW 20 ?_; try simp only [gmS])
            (refine tkW 21 ?_; try simp only [gmS])
            (refine rdW 22 (fun K hK => ?_); go_simp)
            refine (LD.out hKd _).mono ?_
            rintro e u4 ⟨rfl, rfl⟩
            (refine hK.out _ _ hHeld (fun hHeld2 => ?_); clear hK K hHeld; have hHeld := hHeld2; clear hHeld2; try simp only [gmS])
            (refine tkW 23 ?_; try simp only [gmS])
            (refine tkW 24 ?_; try simp only [gmS])
            (refine tkW 25 ?_; try simp only [gmS])
            (refine tkW 26 ?_; try simp only [gmS])
            (refine tkW 27 ?_; try simp only [gmS])
            (refine tkW 28 ?_; try simp only [gmS])
            (refine tkW 29 ?_; try simp only [gmS])
            (refine tkW 30 ?_; try simp only [gmS])
            have HH := Lib.hid hHeld
            (refine wpAnyH_done (by kernel_rfl) ?_ _; refine NoPanic.normal ?_)
            clear hHeld
            go_wp2_with fail
            go_ret
            exact ⟨by rw [hR, RF.out]; rfl, by rw [hbo]; exact HBH.out.trans (Below.mono HH.out (by rw [← hbo]; exact HBH.out.size))⟩
        · have RF : Hid (R = false) := Lib.hid (by rw [VO.out, hKd, hN, hT, decide_eq_false hL]; rfl)
          have g1 : decide ((o.c.refs.length : Int) < (At.leastF o.c.kind : Int)) = true := by simp; omega
          have g2 : decide (o.c.refs.length < At.leastF o.c.kind) = true := by simp; omega
          (refine wp_region_noPanic ?_; refine wp_region_held_drew (S := (OldB W)) (by kernel_rfl) ?_ (fun hHeld => ?_); exact Below.drew (Below.refl _ _))
          (refine tkW 0 ?_; try simp only [gmS])
          (refine tkW 1 ?_; try simp only [gmS])
          (refine rdW 2 (fun K hK => ?_); go_simp)
          refine (WD.out _).mono ?_
          rintro e u1 ⟨rfl, b1⟩
          (refine hK.out _ _ (OldB.then hHeld b1) (fun hHeld2 => ?_); clear hK K hHeld; have hHeld := hHeld2; clear hHeld2; try simp only [gmS])
          (refine tkW 3 ?_; try simp only [gmS])
          (refine tkW 4 ?_; try simp only [gmS])
          (refine tkW 5 ?_; try simp only [gmS])
          (refine tkW 6 ?_; try simp only [gmS])
          (refine rdW 7 (fun K hK => ?_); go_simp)
          refine (ND.out _).mono ?_
          rintro e u2 ⟨rfl, b2⟩
          (refine hK.out _ _ (OldB.then hHeld b2) (fun hHeld2 => ?_); clear hK K hHeld; have hHeld := hHeld2; clear hHeld2; try simp only [gmS])
          (refine tkW 8 ?_; try simp only [gmS])
          (refine tkW 9 ?_; try simp only [gmS])
          (refine tkW 10 ?_; try simp only [gmS])
          (refine tkW 11 ?_; try simp only [gmS])
          (refine tkW 12 ?_; try simp only [gmS])
          (refine rdW 13 (fun K hK => ?_); go_simp)
          refine (TD.out _ hHeld).mono ?_
          rintro e u3 ⟨rfl, b3⟩
          (refine hK.out _ _ (OldB.then hHeld b3) (fun hHeld2 => ?_); clear hK K hHeld; have hHeld := hHeld2; clear hHeld2; try simp only [gmS])
          (refine tkW 14 ?_; try simp only [gmS])
          (refine tkW 15 ?_; try simp only [gmS])
          (refine tkW 16 ?_; try simp only [gmS])
          (refine tkW 17 ?_; try simp only [gmS])
          (refine tkW 18 ?_; try simp only [gmS])
          (refine tkW 19 ?_; try simp only [gmS])
          (refine tkW 20 ?_; try simp only [gmS])
          (refine tkW 21 ?_; try simp only [gmS])
          (refine rdW 22 (fun K hK => ?_); go_simp)
          refine (LD.out hKd _).mono ?_
          rintro e u4 ⟨rfl, rfl⟩
          (refine hK.out _ _ hHeld (fun hHeld2 => ?_); clear hK K hHeld; have hHeld := hHeld2; clear hHeld2; try simp only [gmS])
          (refine tkW 23 ?_; try simp only [gmS])
          (refine tkW 24 ?_; try simp only [gmS])
          (refine tkW 25 ?_; try simp only [gmS])
          (refine skW 26 ?_; try simp only [gmS])
          (refine skW 27 ?_; try simp only [gmS])
          (refine skW 28 ?_; try simp only [gmS])
          (refine skW 29 ?_; try simp only [gmS])
          (refine tkW 30 ?_; try simp only [gmS])
          have HH := Lib.hid hHeld
          (refine wpAnyH_done (by kernel_rfl) ?_ _; refine NoPanic.normal ?_)
          clear hHeld
          go_wp2_with fail
          go_ret
          exact ⟨by rw [hR, RF.out]; rfl, by rw [hbo]; exact HBH.out.trans (Below.mono HH.out (by rw [← hbo]; exact HBH.out.size))⟩
end Go.Proofs.YtniklmikdkjgiaaGreatDoor
