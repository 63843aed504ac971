/- WALK: atlas.Patch. -/
import Derived.Test.YtlejeelmlclnkaaGreatDoorCH0
import Derived.Test.YtlejeelmlclnkaaGreatDoorWD
set_option linter.unusedSimpArgs false
set_option linter.unusedVariables false
namespace Go.Proofs.YtlejeelmlclnkaaGreatDoor
open Go.RowKit

set_option maxHeartbeats 8000000 in
set_option maxRecDepth 100000 in
theorem patch_any (A B : Option Addr) (n c m d : Nat) (l : List RO) (ds : List DV) (w : World) (hn : n = l.length) (hm : m = ds.length) (hnm : n + m ≤ 100000) (h : Ms w A l) (hc : n ≤ c) (h2 : Dm w B ds) :
    Calls Tryz.prog 14 #[.agg #[.slice A n c], .slice B m d] w (MapE w (At.patchF (cts l) (ds.map DV.d))) := by
  have hl : n ≤ 100000 := by rw [hn]; exact h.len
  have hdl : m ≤ 10000 := by rw [hm]; exact h2.len
  have PM : Hid (At.patchF (cts l) (ds.map DV.d) = if At.deltasFrom [] (ds.map DV.d) && At.validM (cts l) then (match At.patchGo [] (cts l) (ds.map DV.d) with | none => ([], 12) | some r => (r, 0)) else ([], 1)) := Lib.hid rfl
  have ERR : Hid (∀ (w1 : World) (k : Nat), Below w.heap.size w w1 → At.patchF (cts l) (ds.map DV.d) = ([], k) → MapE w (At.patchF (cts l) (ds.map DV.d)) (.returned (.tuple #[.agg #[.slice none 0 0], .int .i64 (k : Int)])) w1) := Lib.hid (fun w1 k hb e => by
    rw [e]; exact ⟨none, 0, [], rfl, Ms.nil _, rfl, Nat.le_refl _, hb⟩)
  obtain ⟨X, hX⟩ : ∃ X, X = (w.alloc (.cells #[.slice A n c] 24)).alloc (.cells #[.slice none 0 0] 24) := ⟨_, rfl⟩
  have BX : Below w.heap.size w X := by rw [hX]; exact ((Below.refl _ _).alloc (Nat.le_refl _) _).alloc (by first | (simp; done) | (simp; omega)) _
  have X0 : X.heap[w.heap.size]? = some (.cells #[.slice A n c] 24 (0, 0)) := by rw [hX]; exact (alloc_old _ _ (by first | (simp; done) | (simp; omega))).trans (heap_alloc_new w _)
  have X2 : X.heap[w.heap.size + 1]? = some (.cells #[.slice none 0 0] 24 (0, 0)) := by rw [hX]; exact alloc_new' _ _ _ (by first | (simp; done) | (simp; omega))
  have XZ : X.heap.size = w.heap.size + 2 := by rw [hX]; simp
  have CF : Hid (∀ u, Below X.heap.size X u → u.cell? ⟨w.heap.size, 0, none⟩ = some (.slice A n c) ∧ u.cell? ⟨w.heap.size + 1, 0, none⟩ = some (.slice none 0 0) ∧ u.frozen? ⟨w.heap.size + 1, 0, none⟩ = false) := Lib.hid (fun u hu => by
    have h0 := (hu.block w.heap.size (by omega)).trans X0
    have h2 := (hu.block (w.heap.size + 1) (by omega)).trans X2
    exact ⟨cell_of_row u _ 0 _ _ _ h0, cell_of_row u _ 0 _ _ _ h2, free_blk h2 0⟩)
  have ZF : Hid (∀ u, Below X.heap.size X u → (loadVar 24 ⟨w.heap.size + 1, 0, none⟩).run Tryz.prog (u.setCell ⟨w.heap.size + 1, 0, none⟩ (.slice none 0 0)) = .ok (.agg #[.slice none 0 0]) (u.setCell ⟨w.heap.size + 1, 0, none⟩ (.slice none 0 0)) ∧ Hid (Below w.heap.size w (u.setCell ⟨w.heap.size + 1, 0, none⟩ (.slice none 0 0)))) := Lib.hid (fun u hu => by
    have h2 := (hu.block (w.heap.size + 1) (by omega)).trans X2
    exact ⟨load_map (one_setCell h2), Lib.hid ((BX.trans (Below.mono hu BX.size)).setCell (by show w.heap.size ≤ w.heap.size + 1; omega) _)⟩)
  have HB := Lib.hid BX
  have H0 := Lib.hid X0
  have H2 := Lib.hid X2
  have HM := Lib.hid h
  have HD := Lib.hid h2
  have HN := Lib.hid hn
  have HMn := Lib.hid hm
  have DF : Hid (∀ R, R = At.deltasFrom [] (ds.map DV.d) → R = At.deltasFrom [] ((ds.drop 0).map DV.d)) := Lib.hid (fun R e => e)
  obtain ⟨RD, hRD⟩ : ∃ RD, At.deltasFrom [] (ds.map DV.d) = RD := ⟨_, rfl⟩
  have ST : Hid (RD = At.deltasFrom [] ((ds.drop 0).map DV.d)) := Lib.hid hRD.symm
  rw [hRD] at PM
  have te := mkB_tl []
  have em : (ByteArray.mk #[]) = mkB [] := rfl
  clear X0 X2 BX h h2 hn hm hRD DF
  go_enter Tryz.func14, Tryz.ntmps14
  go_upto_region 1 with fail
  rw [← hX]
  clear hX
  go_wp2_with fail
  try rw [em]
  go_loopw [6, 8, 16] (fun s6 s8 s16 wr => ∃ (k : Nat) (last : Tx), k ≤ m ∧ s16 = .int .i64 (k : Int) ∧ s6 = .string (mkB last) ∧ (∃ p, s8 = p) ∧ Hid (RD = At.deltasFrom last ((ds.drop k).map DV.d)) ∧ Hid (Below X.heap.size X wr)) (fun _ _ i _ => m - (intOf i).toNat)
  case atStart => exact ⟨0, [], Nat.zero_le _, rfl, rfl, ⟨_, rfl⟩, ST, Lib.hid (Below.refl _ _)⟩
  case round =>
    clear ST
    obtain ⟨k, last, hk, rfl, rfl, ⟨p8, rfl⟩, ST, BL⟩ := hrel
    have tl := mkB_tl last
    have BW := Lib.hid (HB.out.trans (Below.mono BL.out HB.out.size))
    by_cases hlt : k < m
    · have hkl : k < ds.length := by rw [← HMn.out]; exact hlt
      have d1 : (k : Int) < (m : Int) := by omega
      have d2 : (0 : Int) ≤ (k : Int) := by omega
      obtain ⟨b, off, rfl, hb, hcell⟩ := dvs_at (HD.out.rd.below BW.out) hkl
      have DI := HD.out.is ds[k] (List.getElem_mem hkl)
      have DS := HD.out.sz ds[k] (List.getElem_mem hkl)
      have SD : Hid (RD = (At.lt last ds[k].id && At.okD ds[k].d && At.deltasFrom ds[k].id ((ds.drop (k + 1)).map DV.d))) := Lib.hid (ST.out.trans (deltas_drop ds last hkl))
      generalize ds[k] = x at *
      obtain ⟨A1, q1, v1, -⟩ := DI.o.rs
      obtain ⟨A2, q2, v2, -⟩ := DI.o.ts
      obtain ⟨A3, q3, v3, -⟩ := DI.n.rs
      obtain ⟨A4, q4, v4, -⟩ := DI.n.ts
      have eC := dvC_eq v1 v2 v3 v4
      rw [eC] at hcell
      have c0 := hcell 0 _ rfl
      have c1 := hcell 1 _ rfl
      have c2 := hcell 2 _ rfl
      have c3 := hcell 3 _ rfl
      have c4 := hcell 4 _ rfl
      have c5 := hcell 5 _ rfl
      have c6 := hcell 6 _ rfl
      have c7 := hcell 7 _ rfl
      have c8 := hcell 8 _ rfl
      have c9 := hcell 9 _ rfl
      have c10 := hcell 10 _ rfl
      have c11 := hcell 11 _ rfl
      have c12 := hcell 12 _ rfl
      have c13 := hcell 13 _ rfl
      have c14 := hcell 14 _ rfl
      simp only [Nat.add_zero] at c0
      have DIF : Hid (∀ u, Below w.heap.size w u → Calls Tryz.prog 50 #[.agg (dvC x).toArray] u fun e w' => e = .returned (.bool (At.differs x.d)) ∧ Below u.heap.size u w') := Lib.hid (fun u hu => differs_any x u (DI.below hu) DS)
      have PRO : Hid (∀ u, Below w.heap.size w u → Calls Tryz.prog 51 #[.agg #[.bool x.was, .string (mkB x.id)], roA x.o] u fun e w' => e = .returned (.bool (At.properB x.was x.id x.o.c)) ∧ Below u.heap.size u w') := Lib.hid (fun u hu => proper_any x.was x.id x.o u (DI.o.below hu) DS.2.1)
      have PRN : Hid (∀ u, Below w.heap.size w u → Calls Tryz.prog 51 #[.agg #[.bool x.is, .string (mkB x.id)], roA x.n] u fun e w' => e = .returned (.bool (At.properB x.is x.id x.n.c)) ∧ Below u.heap.size u w') := Lib.hid (fun u hu => proper_any x.is x.id x.n u (DI.n.below hu) DS.2.2)
      rw [eC] at DIF
      unfold roA at PRO PRN
      rw [v1, v2] at PRO
      rw [v3, v4] at PRN
      have t1 := mkB_tl x.id
      have OK : Hid (At.okD x.d = ((x.was || x.is) && At.differs x.d && At.properB x.was x.id x.o.c && At.properB x.is x.id x.n.c)) := Lib.hid rfl
      clear hcell DI DS eC v1 v2 v3 v4 ST
      go_upto_region 5 with fail
      generalize hY : wr.alloc (.cells #[.string (mkB x.id), .bool x.was, .bool x.is, .string (mkB x.o.c.id), .int .i64 x.o.c.kind, .int .i64 x.o.c.x, .int .i64 x.o.c.y, .slice A1 x.o.c.refs.length q1, .slice A2 x.o.c.tags.length q2, .string (mkB x.n.c.id), .int .i64 x.n.c.kind, .int .i64 x.n.c.x, .int .i64 x.n.c.y, .slice A3 x.n.c.refs.length q3, .slice A4 x.n.c.tags.length q4] 45) = Y at *
      have YX : Y.heap[wr.heap.size]? = some (.cells (dlL x A1 q1 A2 q2 A3 q3 A4 q4).toArray 45 (0, 0)) := by rw [← hY]; exact heap_alloc_new wr _
      have YB : Below wr.heap.size wr Y := by rw [← hY]; exact (Below.refl _ _).alloc (Nat.le_refl _) _
      have YZ : Y.heap.size = wr.heap.size + 1 := by rw [← hY]; simp
      have BY := Lib.hid (BL.out.trans (Below.mono YB BL.out.size))
      have WY := Lib.hid (HB.out.trans (Below.mono BY.out HB.out.size))
      have KY : Hid (∀ u, Below Y.heap.size Y u → (∀ f v, (dlL x A1 q1 A2 q2 A3 q3 A4 q4)[f]? = some v → u.cell? ⟨wr.heap.size, f, none⟩ = some v)) := Lib.hid (fun u hu f v hv => (cell_of_row u wr.heap.size f _ _ _ ((hu.block _ (by omega)).trans YX)).trans (by simpa using hv))
      clear hY YX YB c0 c1 c2 c3 c4 c5 c6 c7 c8 c9 c10 c11 c12 c13 c14
      unfold dlL at KY DIF
      have y0 := KY.out Y (Below.refl _ _) 0 _ rfl
      have y1 := KY.out Y (Below.refl _ _) 1 _ rfl
      have y2 := KY.out Y (Below.refl _ _) 2 _ rfl
      have y3 := KY.out Y (Below.refl _ _) 3 _ rfl
      have y4 := KY.out Y (Below.refl _ _) 4 _ rfl
      have y5 := KY.out Y (Below.refl _ _) 5 _ rfl
      have y6 := KY.out Y (Below.refl _ _) 6 _ rfl
      have y7 := KY.out Y (Below.refl _ _) 7 _ rfl
      have y8 := KY.out Y (Below.refl _ _) 8 _ rfl
      have y9 := KY.out Y (Below.refl _ _) 9 _ rfl
      have y10 := KY.out Y (Below.refl _ _) 10 _ rfl
      have y11 := KY.out Y (Below.refl _ _) 11 _ rfl
      have y12 := KY.out Y (Below.refl _ _) 12 _ rfl
      have y13 := KY.out Y (Below.refl _ _) 13 _ rfl
      have y14 := KY.out Y (Below.refl _ _) 14 _ rfl
      rcases lt_facts x.id last with ⟨f1, f2, f3⟩ | ⟨f1, f2, f3⟩ | ⟨f1, f2, f3⟩
      · cases hw : x.was
        · cases hi : x.is
          · have RF : Hid (RD = false) := Lib.hid (by rw [SD.out, OK.out, hw, hi]; simp)
            rw [hw] at y1
            rw [hi] at y2
            clear SD OK DIF PRO PRN
            have PE : Hid (At.patchF (cts l) (ds.map DV.d) = ([], 1)) := Lib.hid (by rw [PM.out, RF.out]; rfl)
            obtain ⟨-, mz, fz⟩ := CF.out Y BY.out
            obtain ⟨LZ, BZ⟩ := ZF.out Y BY.out
            go_wp2_with fail
            refine bodyPost_ret (results_cell2 (i := 4) (j := 5) rfl rfl LZ rfl) rfl ?_
            exact ERR.out _ 1 BZ.out PE.out
          · rw [hw] at y1 PRO OK DIF KY
            rw [hi] at y2 PRN OK DIF KY
            go_wp2_with fail
            refine (DIF.out Y WY.out).mono ?_
            rintro e z1 ⟨rfl, b1⟩
            have BZ1 := Lib.hid (show Below Y.heap.size Y z1 from b1)
            have BX1 := Lib.hid (BY.out.trans (b1.mono BY.out.size))
            have WX1 := Lib.hid (HB.out.trans (Below.mono BX1.out HB.out.size))
            clear b1 y0 y1 y2 y3 y4 y5 y6 y7 y8 y9 y10 y11 y12 y13 y14 DIF
            cases hdf : At.differs x.d
            · have RF : Hid (RD = false) := Lib.hid (by rw [SD.out, OK.out, hdf]; simp)
              clear SD OK PRO PRN
              have PE : Hid (At.patchF (cts l) (ds.map DV.d) = ([], 1)) := Lib.hid (by rw [PM.out, RF.out]; rfl)
              obtain ⟨-, mz, fz⟩ := CF.out z1 BX1.out
              obtain ⟨LZ, BZ⟩ := ZF.out z1 BX1.out
              go_wp2_with fail
              refine bodyPost_ret (results_cell2 (i := 4) (j := 5) rfl rfl LZ rfl) rfl ?_
              exact ERR.out _ 1 BZ.out PE.out
            · have y0 := KY.out z1 BZ1.out 0 _ rfl
              have y1 := KY.out z1 BZ1.out 1 _ rfl
              have y3 := KY.out z1 BZ1.out 3 _ rfl
              have y4 := KY.out z1 BZ1.out 4 _ rfl
              have y5 := KY.out z1 BZ1.out 5 _ rfl
              have y6 := KY.out z1 BZ1.out 6 _ rfl
              have y7 := KY.out z1 BZ1.out 7 _ rfl
              have y8 := KY.out z1 BZ1.out 8 _ rfl
              go_wp2_with fail
              refine (PRO.out z1 WX1.out).mono ?_
              rintro e z2 ⟨rfl, b2⟩
              have BZ2 := Lib.hid (BZ1.out.trans (b2.mono BZ1.out.size))
              have BX2 := Lib.hid (BX1.out.trans (b2.mono BX1.out.size))
              have WX2 := Lib.hid (HB.out.trans (Below.mono BX2.out HB.out.size))
              clear b2 y0 y1 y3 y4 y5 y6 y7 y8 PRO BX1 WX1 BZ1
              cases hpo : At.properB false x.id x.o.c
              · have RF : Hid (RD = false) := Lib.hid (by rw [SD.out, OK.out, hpo]; simp)
                clear SD OK PRN
                have PE : Hid (At.patchF (cts l) (ds.map DV.d) = ([], 1)) := Lib.hid (by rw [PM.out, RF.out]; rfl)
                obtain ⟨-, mz, fz⟩ := CF.out z2 BX2.out
                obtain ⟨LZ, BZ⟩ := ZF.out z2 BX2.out
                go_wp2_with fail
                refine bodyPost_ret (results_cell2 (i := 4) (j := 5) rfl rfl LZ rfl) rfl ?_
                exact ERR.out _ 1 BZ.out PE.out
              · have y0 := KY.out z2 BZ2.out 0 _ rfl
                have y2 := KY.out z2 BZ2.out 2 _ rfl
                have y9 := KY.out z2 BZ2.out 9 _ rfl
                have y10 := KY.out z2 BZ2.out 10 _ rfl
                have y11 := KY.out z2 BZ2.out 11 _ rfl
                have y12 := KY.out z2 BZ2.out 12 _ rfl
                have y13 := KY.out z2 BZ2.out 13 _ rfl
                have y14 := KY.out z2 BZ2.out 14 _ rfl
                go_wp2_with fail
                refine (PRN.out z2 WX2.out).mono ?_
                rintro e z3 ⟨rfl, b3⟩
                have BZ3 := Lib.hid (BZ2.out.trans (b3.mono BZ2.out.size))
                have BX3 := Lib.hid (BX2.out.trans (b3.mono BX2.out.size))
                clear b3 y0 y2 y9 y10 y11 y12 y13 y14 PRN BX2 WX2 BZ2
                cases hpn : At.properB true x.id x.n.c
                · have RF : Hid (RD = false) := Lib.hid (by rw [SD.out, OK.out, hpn]; simp)
                  clear SD OK
                  have PE : Hid (At.patchF (cts l) (ds.map DV.d) = ([], 1)) := Lib.hid (by rw [PM.out, RF.out]; rfl)
                  obtain ⟨-, mz, fz⟩ := CF.out z3 BX3.out
                  obtain ⟨LZ, BZ⟩ := ZF.out z3 BX3.out
                  go_wp2_with fail
                  refine bodyPost_ret (results_cell2 (i := 4) (j := 5) rfl rfl LZ rfl) rfl ?_
                  exact ERR.out _ 1 BZ.out PE.out
                · have ST2 : Hid (RD = At.deltasFrom x.id ((ds.drop (k + 1)).map DV.d)) := Lib.hid (by rw [SD.out, OK.out, f1, hdf, hpo, hpn]; rfl)
                  have y0 := KY.out z3 BZ3.out 0 _ rfl
                  clear SD OK
                  go_wp2_with fail
                  exact ⟨⟨k + 1, x.id, by omega, by go_num, rfl, ⟨_, rfl⟩, ST2, BX3⟩, by simp [intOf]; omega⟩
        · cases hi : x.is
          · rw [hw] at y1 PRO OK DIF KY
            rw [hi] at y2 PRN OK DIF KY
            go_wp2_with fail
            refine (DIF.out Y WY.out).mono ?_
            rintro e z1 ⟨rfl, b1⟩
            have BZ1 := Lib.hid (show Below Y.heap.size Y z1 from b1)
            have BX1 := Lib.hid (BY.out.trans (b1.mono BY.out.size))
            have WX1 := Lib.hid (HB.out.trans (Below.mono BX1.out HB.out.size))
            clear b1 y0 y1 y2 y3 y4 y5 y6 y7 y8 y9 y10 y11 y12 y13 y14 DIF
            cases hdf : At.differs x.d
            · have RF : Hid (RD = false) := Lib.hid (by rw [SD.out, OK.out, hdf]; simp)
              clear SD OK PRO PRN
              have PE : Hid (At.patchF (cts l) (ds.map DV.d) = ([], 1)) := Lib.hid (by rw [PM.out, RF.out]; rfl)
              obtain ⟨-, mz, fz⟩ := CF.out z1 BX1.out
              obtain ⟨LZ, BZ⟩ := ZF.out z1 BX1.out
              go_wp2_with fail
              refine bodyPost_ret (results_cell2 (i := 4) (j := 5) rfl rfl LZ rfl) rfl ?_
              exact ERR.out _ 1 BZ.out PE.out
            · have y0 := KY.out z1 BZ1.out 0 _ rfl
              have y1 := KY.out z1 BZ1.out 1 _ rfl
              have y3 := KY.out z1 BZ1.out 3 _ rfl
              have y4 := KY.out z1 BZ1.out 4 _ rfl
              have y5 := KY.out z1 BZ1.out 5 _ rfl
              have y6 := KY.out z1 BZ1.out 6 _ rfl
              have y7 := KY.out z1 BZ1.out 7 _ rfl
              have y8 := KY.out z1 BZ1.out 8 _ rfl
              go_wp2_with fail
              refine (PRO.out z1 WX1.out).mono ?_
              rintro e z2 ⟨rfl, b2⟩
              have BZ2 := Lib.hid (BZ1.out.trans (b2.mono BZ1.out.size))
              have BX2 := Lib.hid (BX1.out.trans (b2.mono BX1.out.size))
              have WX2 := Lib.hid (HB.out.trans (Below.mono BX2.out HB.out.size))
              clear b2 y0 y1 y3 y4 y5 y6 y7 y8 PRO BX1 WX1 BZ1
              cases hpo : At.properB true x.id x.o.c
              · have RF : Hid (RD = false) := Lib.hid (by rw [SD.out, OK.out, hpo]; simp)
                clear SD OK PRN
                have PE : Hid (At.patchF (cts l) (ds.map DV.d) = ([], 1)) := Lib.hid (by rw [PM.out, RF.out]; rfl)
                obtain ⟨-, mz, fz⟩ := CF.out z2 BX2.out
                obtain ⟨LZ, BZ⟩ := ZF.out z2 BX2.out
                go_wp2_with fail
                refine bodyPost_ret (results_cell2 (i := 4) (j := 5) rfl rfl LZ rfl) rfl ?_
                exact ERR.out _ 1 BZ.out PE.out
              · have y0 := KY.out z2 BZ2.out 0 _ rfl
                have y2 := KY.out z2 BZ2.out 2 _ rfl
                have y9 := KY.out z2 BZ2.out 9 _ rfl
                have y10 := KY.out z2 BZ2.out 10 _ rfl
                have y11 := KY.out z2 BZ2.out 11 _ rfl
                have y12 := KY.out z2 BZ2.out 12 _ rfl
                have y13 := KY.out z2 BZ2.out 13 _ rfl
                have y14 := KY.out z2 BZ2.out 14 _ rfl
                go_wp2_with fail
                refine (PRN.out z2 WX2.out).mono ?_
                rintro e z3 ⟨rfl, b3⟩
                have BZ3 := Lib.hid (BZ2.out.trans (b3.mono BZ2.out.size))
                have BX3 := Lib.hid (BX2.out.trans (b3.mono BX2.out.size))
                clear b3 y0 y2 y9 y10 y11 y12 y13 y14 PRN BX2 WX2 BZ2
                cases hpn : At.properB false x.id x.n.c
                · have RF : Hid (RD = false) := Lib.hid (by rw [SD.out, OK.out, hpn]; simp)
                  clear SD OK
                  have PE : Hid (At.patchF (cts l) (ds.map DV.d) = ([], 1)) := Lib.hid (by rw [PM.out, RF.out]; rfl)
                  obtain ⟨-, mz, fz⟩ := CF.out z3 BX3.out
                  obtain ⟨LZ, BZ⟩ := ZF.out z3 BX3.out
                  go_wp2_with fail
                  refine bodyPost_ret (results_cell2 (i := 4) (j := 5) rfl rfl LZ rfl) rfl ?_
                  exact ERR.out _ 1 BZ.out PE.out
                · have ST2 : Hid (RD = At.deltasFrom x.id ((ds.drop (k + 1)).map DV.d)) := Lib.hid (by rw [SD.out, OK.out, f1, hdf, hpo, hpn]; rfl)
                  have y0 := KY.out z3 BZ3.out 0 _ rfl
                  clear SD OK
                  go_wp2_with fail
                  exact ⟨⟨k + 1, x.id, by omega, by go_num, rfl, ⟨_, rfl⟩, ST2, BX3⟩, by simp [intOf]; omega⟩
          · rw [hw] at y1 PRO OK DIF KY
            rw [hi] at y2 PRN OK DIF KY
            go_wp2_with fail
            refine (DIF.out Y WY.out).mono ?_
            rintro e z1 ⟨rfl, b1⟩
            have BZ1 := Lib.hid (show Below Y.heap.size Y z1 from b1)
            have BX1 := Lib.hid (BY.out.trans (b1.mono BY.out.size))
            have WX1 := Lib.hid (HB.out.trans (Below.mono BX1.out HB.out.size))
            clear b1 y0 y1 y2 y3 y4 y5 y6 y7 y8 y9 y10 y11 y12 y13 y14 DIF
            cases hdf : At.differs x.d
            · have RF : Hid (RD = false) := Lib.hid (by rw [SD.out, OK.out, hdf]; simp)
              clear SD OK PRO PRN
              have PE : Hid (At.patchF (cts l) (ds.map DV.d) = ([], 1)) := Lib.hid (by rw [PM.out, RF.out]; rfl)
              obtain ⟨-, mz, fz⟩ := CF.out z1 BX1.out
              obtain ⟨LZ, BZ⟩ := ZF.out z1 BX1.out
              go_wp2_with fail
              refine bodyPost_ret (results_cell2 (i := 4) (j := 5) rfl rfl LZ rfl) rfl ?_
              exact ERR.out _ 1 BZ.out PE.out
            · have y0 := KY.out z1 BZ1.out 0 _ rfl
              have y1 := KY.out z1 BZ1.out 1 _ rfl
              have y3 := KY.out z1 BZ1.out 3 _ rfl
              have y4 := KY.out z1 BZ1.out 4 _ rfl
              have y5 := KY.out z1 BZ1.out 5 _ rfl
              have y6 := KY.out z1 BZ1.out 6 _ rfl
              have y7 := KY.out z1 BZ1.out 7 _ rfl
              have y8 := KY.out z1 BZ1.out 8 _ rfl
              go_wp2_with fail
              refine (PRO.out z1 WX1.out).mono ?_
              rintro e z2 ⟨rfl, b2⟩
              have BZ2 := Lib.hid (BZ1.out.trans (b2.mono BZ1.out.size))
              have BX2 := Lib.hid (BX1.out.trans (b2.mono BX1.out.size))
              have WX2 := Lib.hid (HB.out.trans (Below.mono BX2.out HB.out.size))
              clear b2 y0 y1 y3 y4 y5 y6 y7 y8 PRO BX1 WX1 BZ1
              cases hpo : At.properB true x.id x.o.c
              · have RF : Hid (RD = false) := Lib.hid (by rw [SD.out, OK.out, hpo]; simp)
                clear SD OK PRN
                have PE : Hid (At.patchF (cts l) (ds.map DV.d) = ([], 1)) := Lib.hid (by rw [PM.out, RF.out]; rfl)
                obtain ⟨-, mz, fz⟩ := CF.out z2 BX2.out
                obtain ⟨LZ, BZ⟩ := ZF.out z2 BX2.out
                go_wp2_with fail
                refine bodyPost_ret (results_cell2 (i := 4) (j := 5) rfl rfl LZ rfl) rfl ?_
                exact ERR.out _ 1 BZ.out PE.out
              · have y0 := KY.out z2 BZ2.out 0 _ rfl
                have y2 := KY.out z2 BZ2.out 2 _ rfl
                have y9 := KY.out z2 BZ2.out 9 _ rfl
                have y10 := KY.out z2 BZ2.out 10 _ rfl
                have y11 := KY.out z2 BZ2.out 11 _ rfl
                have y12 := KY.out z2 BZ2.out 12 _ rfl
                have y13 := KY.out z2 BZ2.out 13 _ rfl
                have y14 := KY.out z2 BZ2.out 14 _ rfl
                go_wp2_with fail
                refine (PRN.out z2 WX2.out).mono ?_
                rintro e z3 ⟨rfl, b3⟩
                have BZ3 := Lib.hid (BZ2.out.trans (b3.mono BZ2.out.size))
                have BX3 := Lib.hid (BX2.out.trans (b3.mono BX2.out.size))
                clear b3 y0 y2 y9 y10 y11 y12 y13 y14 PRN BX2 WX2 BZ2
                cases hpn : At.properB true x.id x.n.c
                · have RF : Hid (RD = false) := Lib.hid (by rw [SD.out, OK.out, hpn]; simp)
                  clear SD OK
                  have PE : Hid (At.patchF (cts l) (ds.map DV.d) = ([], 1)) := Lib.hid (by rw [PM.out, RF.out]; rfl)
                  obtain ⟨-, mz, fz⟩ := CF.out z3 BX3.out
                  obtain ⟨LZ, BZ⟩ := ZF.out z3 BX3.out
                  go_wp2_with fail
                  refine bodyPost_ret (results_cell2 (i := 4) (j := 5) rfl rfl LZ rfl) rfl ?_
                  exact ERR.out _ 1 BZ.out PE.out
                · have ST2 : Hid (RD = At.deltasFrom x.id ((ds.drop (k + 1)).map DV.d)) := Lib.hid (by rw [SD.out, OK.out, f1, hdf, hpo, hpn]; rfl)
                  have y0 := KY.out z3 BZ3.out 0 _ rfl
                  clear SD OK
                  go_wp2_with fail
                  exact ⟨⟨k + 1, x.id, by omega, by go_num, rfl, ⟨_, rfl⟩, ST2, BX3⟩, by simp [intOf]; omega⟩
      all_goals
        have RF : Hid (RD = false) := Lib.hid (by rw [SD.out, f1]; rfl)
        clear SD f1 DIF PRO PRN OK
        have PE : Hid (At.patchF (cts l) (ds.map DV.d) = ([], 1)) := Lib.hid (by rw [PM.out, RF.out]; rfl)
        obtain ⟨-, mz, fz⟩ := CF.out Y BY.out
        obtain ⟨LZ, BZ⟩ := ZF.out Y BY.out
        go_wp2_with fail
        refine bodyPost_ret (results_cell2 (i := 4) (j := 5) rfl rfl LZ rfl) rfl ?_
        exact ERR.out _ 1 BZ.out PE.out
    · have d1 : ¬ (k : Int) < (m : Int) := by omega
      have RT : Hid (RD = true) := Lib.hid (by rw [ST.out, List.drop_eq_nil_of_le (by rw [← HMn.out]; omega)]; rfl)
      obtain ⟨k0, mz, fz⟩ := CF.out wr BL.out
      have VB : Below wr.heap.size wr (wr.alloc (.cells #[.slice A n c] 24)) := (Below.refl _ _).alloc (Nat.le_refl _) _
      have BV := Lib.hid (BL.out.trans (Below.mono VB BL.out.size))
      have WV := Lib.hid (HB.out.trans (Below.mono BV.out HB.out.size))
      have VD := Lib.hid (valids_any (some ⟨wr.heap.size, 0, none⟩) 1 1 [⟨A, c, l⟩] (wr.alloc (.cells #[.slice A n c] 24)) rfl (by omega) (Rd.of_row (heap_alloc_new wr _) (by rw [HN.out]; exact List.prefix_refl _)) (fun m hm => by rw [List.mem_singleton.1 hm]; exact HM.out.below WV.out))
      have AV : allV [⟨A, c, l⟩] = At.validM (cts l) := by simp [allV]
      rw [AV] at VD
      clear ST AV VB
      go_wp2_with fail
      refine VD.out.mono ?_
      rintro e u1 ⟨rfl, b1⟩
      have BU := Lib.hid (BV.out.trans (b1.mono BV.out.size))
      have WU := Lib.hid (HB.out.trans (Below.mono BU.out HB.out.size))
      clear b1 VD k0 mz fz BV WV
      cases hV : At.validM (cts l)
      · have PE : Hid (At.patchF (cts l) (ds.map DV.d) = ([], 1)) := Lib.hid (by rw [PM.out, hV, Bool.and_false]; rfl)
        obtain ⟨-, mz, fz⟩ := CF.out u1 BU.out
        obtain ⟨LZ, BZ⟩ := ZF.out u1 BU.out
        go_wp2_with fail
        refine bodyPost_ret (results_cell2 (i := 4) (j := 5) rfl rfl LZ rfl) rfl ?_
        exact ERR.out _ 1 BZ.out PE.out
      · have PG : Hid (At.patchF (cts l) (ds.map DV.d) = (match At.patchGo (cts []) (cts l) ((ds.drop 0).map DV.d) with | none => ([], 12) | some r => (r, 0))) := Lib.hid (by rw [PM.out, RT.out, hV]; rfl)
        have SR : Hid (At.Srt (cts l)) := Lib.hid (At.validM_iff.1 hV).1
        have h0 := (BU.out.block w.heap.size (by omega)).trans H0.out
        have h2 := (BU.out.block (w.heap.size + 1) (by omega)).trans H2.out
        have bz := BU.out.size
        have S0 : Hid (PS w u1.heap.size (u1.alloc (.cells #[.slice none 0 0] 24)) l ds (At.patchF (cts l) (ds.map DV.d)) 0) := Lib.hid ⟨A, c, l, .slice none 0 0, [], (alloc_old _ _ (by omega)).trans h0 |>.trans (by rw [HN.out]), HM.out.rd, HM.out.ob, by rw [← HN.out]; exact hc, SR.out, heap_alloc_new u1 _, World.ownsRow_nil _ _ _ _, (alloc_old _ _ (by omega)).trans h2, fun r hr => (by cases hr), by simp, PG.out, fun r hr => HM.out.sz r hr, Nat.le_refl _, WU.out.alloc WU.out.size _⟩
        have z1 : u1.heap.size < (u1.alloc (.cells #[.slice none 0 0] 24)).heap.size := by simp
        go_upto_region 13 with fail
        generalize hbo : u1.heap.size = bo at *
        have hbw : w.heap.size + 2 ≤ bo := by omega
        clear h0 h2 bz BU WU PM ERR ZF PG z1
        go_loopw [11, 12, 13, 72] (fun s11 s12 s13 s72 wr => ∃ k : Nat, k ≤ m ∧ s72 = .int .i64 (k : Int) ∧ (∃ p, s11 = p) ∧ (∃ p, s12 = p) ∧ (∃ p, s13 = p) ∧ Hid (PS w bo wr l ds (At.patchF (cts l) (ds.map DV.d)) k)) (fun _ _ _ i _ => m - (intOf i).toNat)
        case atStart => exact ⟨0, Nat.zero_le _, rfl, ⟨_, rfl⟩, ⟨_, rfl⟩, ⟨_, rfl⟩, S0⟩
        case round =>
          clear S0
          obtain ⟨k, hk, rfl, ⟨p11, rfl⟩, ⟨p12, rfl⟩, ⟨p13, rfl⟩, PSH⟩ := hrel
          obtain ⟨A', c', Lr, vo, Ou, g0, gR, gO, gc, gS, g2, gW, g4, gOr, gL, gP, gZ, gl, gB⟩ := PSH.out
          by_cases hlt : k < m
          · have hkl : k < ds.length := by rw [← HMn.out]; exact hlt
            have d1 : (k : Int) < (m : Int) := by omega
            have d2 : (0 : Int) ≤ (k : Int) := by omega
            obtain ⟨b, off, rfl, hb, hcell⟩ := dvs_at (HD.out.rd.below gB) hkl
            have DI := HD.out.is ds[k] (List.getElem_mem hkl)
            have DS := HD.out.sz ds[k] (List.getElem_mem hkl)
            have GK : Hid ((ds.drop k).map DV.d = ds[k].d :: (ds.drop (k + 1)).map DV.d) := Lib.hid (by rw [List.drop_eq_getElem_cons hkl]; rfl)
            generalize ds[k] = x at *
            obtain ⟨A1, q1, v1, -⟩ := DI.o.rs
            obtain ⟨A2, q2, v2, -⟩ := DI.o.ts
            obtain ⟨A3, q3, v3, -⟩ := DI.n.rs
            obtain ⟨A4, q4, v4, -⟩ := DI.n.ts
            have eC := dvC_eq v1 v2 v3 v4
            rw [eC] at hcell
            have c0 := hcell 0 _ rfl
            have c1 := hcell 1 _ rfl
            have c2 := hcell 2 _ rfl
            have c3 := hcell 3 _ rfl
            have c4 := hcell 4 _ rfl
            have c5 := hcell 5 _ rfl
            have c6 := hcell 6 _ rfl
            have c7 := hcell 7 _ rfl
            have c8 := hcell 8 _ rfl
            have c9 := hcell 9 _ rfl
            have c10 := hcell 10 _ rfl
            have c11 := hcell 11 _ rfl
            have c12 := hcell 12 _ rfl
            have c13 := hcell 13 _ rfl
            have c14 := hcell 14 _ rfl
            simp only [Nat.add_zero] at c0
            have DIH := Lib.hid DI
            have DSH := Lib.hid DS
            clear hcell DI DS eC
            go_upto_region 15 with fail
            generalize hY : wr.alloc (.cells #[.string (mkB x.id), .bool x.was, .bool x.is, .string (mkB x.o.c.id), .int .i64 x.o.c.kind, .int .i64 x.o.c.x, .int .i64 x.o.c.y, .slice A1 x.o.c.refs.length q1, .slice A2 x.o.c.tags.length q2, .string (mkB x.n.c.id), .int .i64 x.n.c.kind, .int .i64 x.n.c.x, .int .i64 x.n.c.y, .slice A3 x.n.c.refs.length q3, .slice A4 x.n.c.tags.length q4] 45) = Y at *
            have YX : Y.heap[wr.heap.size]? = some (.cells (dlL x A1 q1 A2 q2 A3 q3 A4 q4).toArray 45 (0, 0)) := by rw [← hY]; exact heap_alloc_new wr _
            have YB : Below wr.heap.size wr Y := by rw [← hY]; exact (Below.refl _ _).alloc (Nat.le_refl _) _
            have YZ : Y.heap.size = wr.heap.size + 1 := by rw [← hY]; simp
            have hlen : ∀ b' x', wr.heap[b']? = some x' → b' < wr.heap.size := fun b' x' hx' => by
              rcases Nat.lt_or_ge b' wr.heap.size with h' | h'
              · exact h'
              · rw [Array.getElem?_eq_none h'] at hx'; cases hx'
            have l0 := hlen _ _ g0
            have l2 := hlen _ _ g2
            have l4 := hlen _ _ g4
            have WY := Lib.hid (gB.trans (Below.mono YB gB.size))
            have G0 := Lib.hid ((YB.block _ l0).trans g0)
            have G2 := Lib.hid ((YB.block _ l2).trans g2)
            have G4 := Lib.hid ((YB.block _ l4).trans g4)
            have GW := Lib.hid (own_same gW (fun g hg => YB.block g (gW.lt g hg).2))
            have GX := Lib.hid YX
            have GN := Lib.hid (show ∀ g, vo.ownBlock = some g → g < wr.heap.size from fun g hg => (gW.lt g hg).2)
            have GP := Lib.hid gP
            have GOr := Lib.hid gOr
            have GLr := Lib.hid (show ∀ r ∈ Lr, ObIs w r ∧ ObSz r.c ∧ r.c.refs.length ≤ 100000 from fun r hr => ⟨gO r hr, gZ r hr⟩)
            have GR := Lib.hid gR
            have GS := Lib.hid gS
            have AD := Lib.hid (at_any A' Lr.length c' Lr x.id Y rfl gS ⟨gR.below WY.out, fun r hr => (gO r hr).below WY.out, gZ, by have := HN.out; omega⟩)
            have m0 := cell_of_row Y w.heap.size 0 _ _ _ G0.out
            have y0 := cell_of_row Y wr.heap.size 0 _ _ _ YX
            simp [dlL] at m0 y0
            clear hY YX YB hlen g0 gR gO gS g2 gW g4 gOr gP gZ gB PSH c0 c1 c2 c3 c4 c5 c6 c7 c8 c9 c10 c11 c12 c13 c14
            go_wp2_with fail
            refine AD.out.mono ?_
            rintro e z1 ⟨rfl, b1⟩
            have WZ1 := Lib.hid (WY.out.trans (Below.mono b1 WY.out.size))
            have lY : wr.heap.size < Y.heap.size := by omega
            have l0' : w.heap.size < Y.heap.size := by omega
            have l2' : bo < Y.heap.size := by omega
            have l4' : w.heap.size + 1 < Y.heap.size := by omega
            have Z0 := Lib.hid ((b1.block _ l0').trans G0.out)
            have Z2 := Lib.hid ((b1.block _ l2').trans G2.out)
            have Z4 := Lib.hid ((b1.block _ l4').trans G4.out)
            have ZW := Lib.hid (own_same GW.out (fun g hg => b1.block g (GW.out.lt g hg).2))
            have ZX := Lib.hid ((b1.block _ lY).trans GX.out)
            have zsz := b1.size
            clear b1 AD m0 y0 G0 G2 G4 GW GX
            have KX : Hid (∀ u, OldB z1 u → (∀ f v, (dlL x A1 q1 A2 q2 A3 q3 A4 q4)[f]? = some v → u.cell? ⟨wr.heap.size, f, none⟩ = some v)) := Lib.hid (fun u hu f v hv => (cell_of_row u wr.heap.size f _ _ _ ((hu.block _ (by omega)).trans ZX.out)).trans (by simpa using hv))
            unfold dlL at KX
            have C1 : ∀ u, OldB z1 u → u.cell? ⟨wr.heap.size, 1, none⟩ = some (.bool x.was) := fun u hu => KX.out u hu 1 _ rfl
            cases hL : At.look (cts Lr) x.id with
            | none =>
              rw [has_none hL]
              cases hw : x.was
              · rw [hw] at C1
                go_upto_region 16 with fail
                (refine wp_region_noPanic ?_; refine wp_region_held_drew (S := (OldB z1)) (by kernel_rfl) ?_ (fun hHeld => ?_); exact Below.drew (Below.refl _ _))
                (refine tkW 0 ?_; try simp only [gmS])
                (refine tkW 1 ?_; try simp only [gmS])
                (refine tkW 2 ?_; try simp only [gmS])
                (refine tkW 3 ?_; try simp only [gmS])
                (refine tkW 4 ?_; try simp only [gmS])
                (refine tkW 5 ?_; try simp only [gmS])
                (refine tkW 6 ?_; try simp only [gmS])
                (refine skW 7 ?_; try simp only [gmS])
                (refine skW 8 ?_; try simp only [gmS])
                (refine skW 9 ?_; try simp only [gmS])
                (refine skW 10 ?_; try simp only [gmS])
                (refine skW 11 ?_; try simp only [gmS])
                (refine skW 12 ?_; try simp only [gmS])
                (refine skW 13 ?_; try simp only [gmS])
                (refine skW 14 ?_; try simp only [gmS])
                (refine skW 15 ?_; try simp only [gmS])
                (refine tkW 16 ?_; try simp only [gmS])
                (refine tkW 17 ?_; try simp only [gmS])
                have HH := Lib.hid hHeld
                (refine wpAnyH_done (by kernel_rfl) ?_ _; refine NoPanic.normal ?_)
                clear hHeld C1
                have hp : At.pos (cts Lr) x.id ≤ Lr.length := by have := At.pos_le (cts Lr) x.id; rwa [cts_len] at this
                have PT : Hid (cts (Lr.take (At.pos (cts Lr) x.id)) = At.below (cts Lr) x.id) := Lib.hid ((cts_take _ _).trans (At.take_pos GS.out x.id))
                have PD : Hid (cts (Lr.drop (At.pos (cts Lr) x.id)) = At.above (cts Lr) x.id) := Lib.hid ((cts_drop _ _).trans ((At.drop_pos GS.out x.id).trans (by rw [hL]; rfl)))
                have FIT : At.fitB (At.look (cts Lr) x.id) x.d = true := by rw [hL]; unfold At.fitB; simp [DV.d, hw]
                generalize At.pos (cts Lr) x.id = p at *
                generalize z1.drew = z2 at *
                have WE := Lib.hid (WZ1.out.trans (Below.mono HH.out WZ1.out.size))
                have f2 : (0 : Int) ≤ (p : Int) := by omega
                have e1 : Lr.length - p = Lr.length - p := rfl
                have STP : Hid (At.patchF (cts l) (ds.map DV.d) = (match At.patchGo (cts Ou ++ At.stepOut (cts Lr) x.d) (At.above (cts Lr) x.id) ((ds.drop (k + 1)).map DV.d) with | none => ([], 12) | some r => (r, 0))) := Lib.hid (by rw [GP.out, GK.out, At.patchGo, if_pos (show At.fitB (At.look (cts Lr) x.d.id) x.d = true from FIT)]; rfl)
                have zz := HH.out.size
                have Y0 := Lib.hid ((HH.out.block _ (by omega)).trans Z0.out)
                have Y2 := Lib.hid ((HH.out.block bo (by omega)).trans Z2.out)
                have Y4 := Lib.hid ((HH.out.block (w.heap.size + 1) (by omega)).trans Z4.out)
                have YX := Lib.hid ((HH.out.block wr.heap.size (by omega)).trans ZX.out)
                have YW := Lib.hid (own_same ZW.out (fun g hg => HH.out.block g (by have := (ZW.out.lt g hg).2; omega)))
                have M0 : z2.drew.cell? ⟨w.heap.size, 0, none⟩ = some (.slice A' Lr.length c') := by have := cell_of_row z2.drew w.heap.size 0 _ _ _ (show z2.drew.heap[w.heap.size]? = _ from Y0.out); simpa using this
                have B0 : z2.drew.cell? ⟨bo, 0, none⟩ = some vo := by have := cell_of_row z2.drew bo 0 _ _ _ (show z2.drew.heap[bo]? = _ from Y2.out); simpa using this
                have f3 : (p : Int) ≤ (c' : Int) := by omega
                have f5 : (p : Int) ≤ (Lr.length : Int) := by omega
                have RT := Lib.hid (rd_upto (p := p) (GR.out.below WE.out))
                have RF := Lib.hid (rd_from GR.out (show p ≤ Lr.length by omega) gc)
                have TL : (rosC (Lr.take p)).length = p * 6 := by rw [rosC_len, List.length_take]; omega
                have ON := Lib.hid (ros_one (w := w) (l := Lr.take p) (fun r hr => (GLr.out r (List.mem_of_mem_take hr)).1))
                have BZ2 : Hid (Below (bo + 1) z2 z2.drew) := Lib.hid (Below.drew (Below.refl _ _))
                clear FIT GP GK Z0 Z2 Z4 ZX ZW KX
                go_upto_region 18 with fail
                (refine wp_region_noPanic ?_; refine wp_region_held_drew (S := (fun u : World => u.cell? ⟨w.heap.size, 0, none⟩ = some (.slice A' Lr.length c'))) (by kernel_rfl) ?_ (fun hHeld => ?_); exact M0)
                (refine tkW 0 ?_; try simp only [gmS])
                (refine tkW 2 ?_; try simp only [gmS])
                (refine tkW 3 ?_; try simp only [gmS])
                (refine tkW 4 ?_; try simp only [gmS])
                (refine tkW 5 ?_; try simp only [gmS])
                (refine rdW 1 (fun K hK => ?_); go_simp)
                (refine hK.out _ _ M0 (fun hHeld2 => ?_); clear hK K hHeld; have hHeld := hHeld2; clear hHeld2; try simp only [gmS])
                (refine rdW 6 (fun K hK => ?_))
                refine step_appRS (by simp [Region.wanted, yielded]) (.tmp 103) (.tmp 107) 22 rfl Tryz.underlying22 info_ob rfl (by decide) (bo + 1) vo Ou.length (rosC Ou) _ p _ (rosC (Lr.take p)) ON.out rfl rfl (own_same YW.out (fun g hg => rfl)) RT.out TL (by show bo + 1 ≤ z2.heap.size; omega) (by have := HN.out; omega) (by have := HN.out; omega) ?_
                intro v7 w7 o7 b7 g7
                obtain ⟨A7, c7, ev7, -⟩ := own_sl o7
                subst ev7
                have B7 := Lib.hid (show Below (bo + 1) z2 w7 from BZ2.out.trans b7)
                have M7 : w7.cell? ⟨w.heap.size, 0, none⟩ = some (.slice A' Lr.length c') := (World.cell?_of_block (w := z2.drew) (b7.block _ (by show w.heap.size < bo + 1; omega))).trans M0
                have F7 : w7.frozen? ⟨bo, 0, none⟩ = false := free_blk ((B7.out.block bo (by omega)).trans Y2.out) 0
                have C7 : w7.cell? ⟨bo, 0, none⟩ = some vo := (World.cell?_of_block (w := z2.drew) (b7.block _ (by show bo < bo + 1; omega))).trans B0
                have O7 := Lib.hid o7
                have G7 := Lib.hid g7
                clear o7 b7 g7 B0
                (refine hK.out _ _ M7 (fun hHeld2 => ?_); clear hK K hHeld; have hHeld := hHeld2; clear hHeld2; try simp only [gmS])
                (refine tkW 7 ?_; try simp only [gmS])
                (refine rdW 8 (fun K hK => ?_); go_simp)
                (refine hK.out _ _ ((World.cell?_setCell_far w7 ⟨bo, 0, none⟩ ⟨w.heap.size, 0, none⟩ (.slice A7 (Ou.length + p) c7) (by show bo ≠ w.heap.size; omega)).trans M7) (fun hHeld2 => ?_); clear hK K hHeld; have hHeld := hHeld2; clear hHeld2; try simp only [gmS])
                (refine wpAnyH_done (by kernel_rfl) ?_ _; refine NoPanic.normal ?_)
                have lb0 : w.heap.size < bo + 1 := by omega
                have lb4 : w.heap.size + 1 < bo + 1 := by omega
                have U0 : Hid ((w7.setCell ⟨bo, 0, none⟩ (.slice A7 (Ou.length + p) c7)).heap[w.heap.size]? = _) := Lib.hid ((Below.heap_setCell _ _ _ _ (by show w.heap.size ≠ bo; omega)).trans ((B7.out.block _ lb0).trans Y0.out))
                have U4 : Hid ((w7.setCell ⟨bo, 0, none⟩ (.slice A7 (Ou.length + p) c7)).heap[w.heap.size + 1]? = _) := Lib.hid ((Below.heap_setCell _ _ _ _ (by show w.heap.size + 1 ≠ bo; omega)).trans ((B7.out.block _ lb4).trans Y4.out))
                have U2 : Hid ((w7.setCell ⟨bo, 0, none⟩ (.slice A7 (Ou.length + p) c7)).heap[bo]? = _) := Lib.hid (one_setCell ((B7.out.block bo (by omega)).trans Y2.out))
                have UX : Hid ((w7.setCell ⟨bo, 0, none⟩ (.slice A7 (Ou.length + p) c7)).heap[wr.heap.size]? = _) := Lib.hid ((Below.heap_setCell _ _ _ _ (by show wr.heap.size ≠ bo; omega)).trans ((G7.out.block wr.heap.size (by show wr.heap.size < z2.heap.size; omega) (fun e => by have := GN.out _ e.symm; omega)).trans YX.out))
                have UW : Hid ((w7.setCell ⟨bo, 0, none⟩ (.slice A7 (Ou.length + p) c7)).ownsRow (bo + 1) 43 6 (.slice A7 (Ou.length + p) c7) (Ou.length + p) (rosC Ou ++ rosC (Lr.take p))) := Lib.hid (own_same O7.out (fun g hg => Below.heap_setCell _ _ _ _ (fun e => by have := (O7.out.lt g hg).1; have e' : g = bo := e; omega)))
                have UB : Hid (Below w.heap.size w (w7.setCell ⟨bo, 0, none⟩ (.slice A7 (Ou.length + p) c7))) := Lib.hid ((WE.out.trans ((B7.out.mono (by omega)).mono (Nat.le_refl _))).setCell (by show w.heap.size ≤ bo; omega) _)
                clear hHeld M7 F7 C7 M0 O7 G7 B7 Y0 Y2 Y4 YX YW RT ON
                generalize w7.setCell ⟨bo, 0, none⟩ (.slice A7 (Ou.length + p) c7) = U at *
                have m0 : U.cell? ⟨w.heap.size, 0, none⟩ = some (.slice A' Lr.length c') := by have := cell_of_row U w.heap.size 0 _ _ _ U0.out; simpa using this
                have mf := free_blk U0.out 0
                have bzU := (UX.out)
                have y2 : U.cell? ⟨wr.heap.size, 2, none⟩ = some (.bool x.is) := by have := cell_of_row U wr.heap.size 2 _ _ _ UX.out; simpa [dlL] using this
                cases hi : x.is
                · have SO : Hid (At.stepOut (cts Lr) x.d = cts (Lr.take p)) := Lib.hid (by rw [PT.out]; unfold At.stepOut; simp [DV.d, hi])
                  have UW2 : Hid (U.ownsRow (bo + 1) 43 6 (.slice A7 (Ou.length + p) c7) (Ou ++ Lr.take p).length (rosC (Ou ++ Lr.take p))) := Lib.hid (by rw [rosC_app, List.length_append, List.length_take, Nat.min_eq_left (by omega)]; exact UW.out)
                  have SP : Hid (At.patchF (cts l) (ds.map DV.d) = (match At.patchGo (cts (Ou ++ Lr.take p)) (cts (Lr.drop p)) ((ds.drop (k + 1)).map DV.d) with | none => ([], 12) | some r => (r, 0))) := Lib.hid (by rw [STP.out, SO.out, PD.out]; simp [cts])
                  rw [hi] at y2
                  clear SO STP UW bzU
                  go_wp2_with fail
                  exact ⟨⟨k + 1, by omega, by go_num, ⟨_, rfl⟩, ⟨_, rfl⟩, ⟨_, rfl⟩, Lib.hid (PS.next (Lr := Lr.drop p) (Ou := Ou ++ Lr.take p) (by rw [List.length_drop]) hbw UB.out U0.out U2.out U4.out UW2.out RF.out (fun r hr => GLr.out r (List.mem_of_mem_drop hr)) (by rw [List.length_drop]; omega) (by rw [cts_drop]; exact At.srt_drop GS.out _)
                    (fun r hr => (List.mem_append.1 hr).elim (GOr.out r) (fun h => GLr.out r (List.mem_of_mem_take h))) (by rw [List.length_append, List.length_take, List.length_drop]; omega) (by rw [List.length_drop]; omega) SP.out)⟩, by simp [intOf]; omega⟩
                · have SO : Hid (At.stepOut (cts Lr) x.d = cts (Lr.take p ++ [x.n])) := Lib.hid (by
                    have e : cts (Lr.take p ++ [x.n]) = cts (Lr.take p) ++ [x.n.c] := by simp [cts]
                    rw [e, PT.out]; unfold At.stepOut; simp [DV.d, hi])
                  have SP : Hid (At.patchF (cts l) (ds.map DV.d) = (match At.patchGo (cts (Ou ++ (Lr.take p ++ [x.n]))) (cts (Lr.drop p)) ((ds.drop (k + 1)).map DV.d) with | none => ([], 12) | some r => (r, 0))) := Lib.hid (by rw [STP.out, SO.out, PD.out]; simp [cts])
                  rw [hi] at y2
                  have RC : Hid (rosC [x.n] = [.string (mkB x.n.c.id), .int .i64 x.n.c.kind, .int .i64 x.n.c.x, .int .i64 x.n.c.y, .slice A3 x.n.c.refs.length q3, .slice A4 x.n.c.tags.length q4]) := Lib.hid (by simp [rosC, roC, v3, v4])
                  have ZC : ∀ (f : Nat) (v : Value), (dlL x A1 q1 A2 q2 A3 q3 A4 q4)[f]? = some v → U.cell? ⟨wr.heap.size, f, none⟩ = some v := fun f v hv => (cell_of_row U wr.heap.size f _ _ _ UX.out).trans (by simpa using hv)
                  unfold dlL at ZC
                  have z9 := ZC 9 _ rfl
                  have z10 := ZC 10 _ rfl
                  have z11 := ZC 11 _ rfl
                  have z12 := ZC 12 _ rfl
                  have z13 := ZC 13 _ rfl
                  have z14 := ZC 14 _ rfl
                  have zo : U.cell? ⟨bo, 0, none⟩ = some (.slice A7 (Ou.length + p) c7) := by have := cell_of_row U bo 0 _ _ _ U2.out; simpa using this
                  have ubz : bo + 1 ≤ U.heap.size := by have := (Array.getElem?_eq_some_iff.1 U2.out).1; omega
                  clear SO STP bzU ZC
                  go_wp2_with (at_builtin; refine wpList_appN rfl (.tmp 113) (.tmp 116) 22 rfl Tryz.underlying22 info_ob rfl (by decide) (bo + 1) _ (Ou.length + p) (rosC Ou ++ rosC (Lr.take p)) _ 1 (by decide) rfl (by intro y hy; simp at hy; rcases hy with rfl | rfl | rfl | rfl | rfl | rfl <;> rfl) rfl rfl rfl UW.out ubz (by have := HN.out; omega) (by have := HN.out; omega) ?_; intro g8 c8 w8 ho8 hg8 hl8 hb8; have HO8 := Lib.hid ho8; have HB8 := Lib.hid hb8; have n8 : w8.cell? ⟨w.heap.size, 0, none⟩ = some (.slice A' Lr.length c') := (hb8.cell (p := ⟨w.heap.size, 0, none⟩) lb0).trans m0; have k8 : w8.frozen? ⟨bo, 0, none⟩ = false := free_blk ((hb8.block bo (by omega)).trans U2.out) 0; have k9 : w8.frozen? ⟨w.heap.size, 0, none⟩ = false := free_blk ((hb8.block w.heap.size lb0).trans U0.out) 0; have k7 : w8.cell? ⟨bo, 0, none⟩ = some (.slice A7 (Ou.length + p) c7) := (hb8.cell (p := ⟨bo, 0, none⟩) (by show bo < bo + 1; omega)).trans zo; clear ho8 hg8 hl8 hb8 m0 mf zo z9 z10 z11 z12 z13 z14 y2)
                  have h0 := (Below.heap_setCell w8 ⟨bo, 0, none⟩ (.slice (some ⟨g8, 0, none⟩) (Ou.length + p + 1) c8) w.heap.size (by show w.heap.size ≠ bo; omega)).trans ((HB8.out.block _ lb0).trans U0.out)
                  have h4 := (Below.heap_setCell w8 ⟨bo, 0, none⟩ (.slice (some ⟨g8, 0, none⟩) (Ou.length + p + 1) c8) (w.heap.size + 1) (by show w.heap.size + 1 ≠ bo; omega)).trans ((HB8.out.block _ lb4).trans U4.out)
                  have h2 := one_setCell (u := .slice (some ⟨g8, 0, none⟩) (Ou.length + p + 1) c8) ((HB8.out.block bo (by omega)).trans U2.out)
                  have hw' : (w8.setCell ⟨bo, 0, none⟩ (.slice (some ⟨g8, 0, none⟩) (Ou.length + p + 1) c8)).ownsRow (bo + 1) 43 6 (.slice (some ⟨g8, 0, none⟩) (Ou.length + p + 1) c8) (Ou ++ (Lr.take p ++ [x.n])).length (rosC (Ou ++ (Lr.take p ++ [x.n]))) := by
                    have e1 : (Ou ++ (Lr.take p ++ [x.n])).length = Ou.length + p + 1 := by rw [List.length_append, List.length_append, List.length_take, Nat.min_eq_left (by omega)]; simp; omega
                    have e2 : rosC (Ou ++ (Lr.take p ++ [x.n])) = rosC Ou ++ rosC (Lr.take p) ++ [.string (mkB x.n.c.id), .int .i64 x.n.c.kind, .int .i64 x.n.c.x, .int .i64 x.n.c.y, .slice A3 x.n.c.refs.length q3, .slice A4 x.n.c.tags.length q4] := by rw [rosC_app, rosC_app, RC.out, List.append_assoc]
                    rw [e1, e2]
                    exact own_same HO8.out (fun g hg => Below.heap_setCell _ _ _ _ (fun e => by have := (HO8.out.lt g hg).1; have e' : g = bo := e; omega))
                  exact ⟨⟨k + 1, by omega, by go_num, ⟨_, rfl⟩, ⟨_, rfl⟩, ⟨_, rfl⟩, Lib.hid (PS.next (Lr := Lr.drop p) (Ou := Ou ++ (Lr.take p ++ [x.n])) (by rw [List.length_drop]) hbw ((UB.out.trans (HB8.out.mono (by omega))).setCell (by show w.heap.size ≤ bo; omega) _) h0 h2 h4 hw' RF.out (fun r hr => GLr.out r (List.mem_of_mem_drop hr)) (by rw [List.length_drop]; omega) (by rw [cts_drop]; exact At.srt_drop GS.out _)
                    (fun r hr => (List.mem_append.1 hr).elim (GOr.out r) (fun h => (List.mem_append.1 h).elim (fun h => GLr.out r (List.mem_of_mem_take h)) (fun h => by rw [List.mem_singleton.1 h]; exact ⟨DIH.out.n, DSH.out.2.2⟩))) (by rw [List.length_append, List.length_append, List.length_take, List.length_drop]; simp; omega) (by rw [List.length_drop]; omega) SP.out)⟩, by simp [intOf]; omega⟩
              · rw [hw] at C1
                go_upto_region 16 with fail
                (refine wp_region_noPanic ?_; refine wp_region_held_drew (S := (OldB z1)) (by kernel_rfl) ?_ (fun hHeld => ?_); exact Below.drew (Below.refl _ _))
                (refine tkW 0 ?_; try simp only [gmS])
                (refine tkW 1 ?_; try simp only [gmS])
                (refine tkW 2 ?_; try simp only [gmS])
                (refine tkW 3 ?_; try simp only [gmS])
                (refine tkW 4 ?_; try simp only [gmS])
                (refine skW 5 ?_; try simp only [gmS])
                (refine skW 6 ?_; try simp only [gmS])
                (refine skW 7 ?_; try simp only [gmS])
                (refine skW 8 ?_; try simp only [gmS])
                (refine skW 9 ?_; try simp only [gmS])
                (refine skW 10 ?_; try simp only [gmS])
                (refine skW 11 ?_; try simp only [gmS])
                (refine skW 12 ?_; try simp only [gmS])
                (refine skW 13 ?_; try simp only [gmS])
                (refine skW 14 ?_; try simp only [gmS])
                (refine skW 15 ?_; try simp only [gmS])
                (refine skW 16 ?_; try simp only [gmS])
                (refine tkW 17 ?_; try simp only [gmS])
                have HH := Lib.hid hHeld
                (refine wpAnyH_done (by kernel_rfl) ?_ _; refine NoPanic.normal ?_)
                have WE := Lib.hid (WZ1.out.trans (Below.mono HH.out WZ1.out.size))
                clear hHeld C1
                have PE : Hid (At.patchF (cts l) (ds.map DV.d) = ([], 12)) := Lib.hid (by rw [GP.out, GK.out, At.patchGo, if_neg (by show ¬ At.fitB (At.look (cts Lr) x.id) x.d = true; rw [hL]; unfold At.fitB; simp [DV.d, hw])])
                have BZ : Hid (Below w.heap.size w (z1.drew.setCell ⟨w.heap.size + 1, 0, none⟩ (.slice none 0 0))) := Lib.hid (WE.out.setCell (by show w.heap.size ≤ w.heap.size + 1; omega) _)
                have LZ := load_map (one_setCell (show z1.drew.heap[w.heap.size + 1]? = _ from Z4.out) (u := .slice none 0 0))
                have mz := cell_of_row z1.drew (w.heap.size + 1) 0 _ _ _ (show z1.drew.heap[w.heap.size + 1]? = _ from Z4.out)
                have fz := free_blk (show z1.drew.heap[w.heap.size + 1]? = _ from Z4.out) 0
                simp at mz
                go_wp2_with fail
                refine bodyPost_ret (results_cell2 (i := 4) (j := 5) rfl rfl LZ rfl) rfl ?_
                rw [PE.out]
                exact ⟨none, 0, [], rfl, Ms.nil _, rfl, Nat.le_refl _, BZ.out⟩
            | some zz =>
              rw [has_some hL]
              cases hw : x.was
              · rw [hw] at C1
                go_upto_region 16 with fail
                (refine wp_region_noPanic ?_; refine wp_region_held_drew (S := (OldB z1)) (by kernel_rfl) ?_ (fun hHeld => ?_); exact Below.drew (Below.refl _ _))
                (refine tkW 0 ?_; try simp only [gmS])
                (refine tkW 1 ?_; try simp only [gmS])
                (refine tkW 2 ?_; try simp only [gmS])
                (refine tkW 3 ?_; try simp only [gmS])
                (refine tkW 4 ?_; try simp only [gmS])
                (refine skW 5 ?_; try simp only [gmS])
                (refine skW 6 ?_; try simp only [gmS])
                (refine skW 7 ?_; try simp only [gmS])
                (refine skW 8 ?_; try simp only [gmS])
                (refine skW 9 ?_; try simp only [gmS])
                (refine skW 10 ?_; try simp only [gmS])
                (refine skW 11 ?_; try simp only [gmS])
                (refine skW 12 ?_; try simp only [gmS])
                (refine skW 13 ?_; try simp only [gmS])
                (refine skW 14 ?_; try simp only [gmS])
                (refine skW 15 ?_; try simp only [gmS])
                (refine skW 16 ?_; try simp only [gmS])
                (refine tkW 17 ?_; try simp only [gmS])
                have HH := Lib.hid hHeld
                (refine wpAnyH_done (by kernel_rfl) ?_ _; refine NoPanic.normal ?_)
                have WE := Lib.hid (WZ1.out.trans (Below.mono HH.out WZ1.out.size))
                clear hHeld C1
                have PE : Hid (At.patchF (cts l) (ds.map DV.d) = ([], 12)) := Lib.hid (by rw [GP.out, GK.out, At.patchGo, if_neg (by show ¬ At.fitB (At.look (cts Lr) x.id) x.d = true; rw [hL]; unfold At.fitB; simp [DV.d, hw])])
                have BZ : Hid (Below w.heap.size w (z1.drew.setCell ⟨w.heap.size + 1, 0, none⟩ (.slice none 0 0))) := Lib.hid (WE.out.setCell (by show w.heap.size ≤ w.heap.size + 1; omega) _)
                have LZ := load_map (one_setCell (show z1.drew.heap[w.heap.size + 1]? = _ from Z4.out) (u := .slice none 0 0))
                have mz := cell_of_row z1.drew (w.heap.size + 1) 0 _ _ _ (show z1.drew.heap[w.heap.size + 1]? = _ from Z4.out)
                have fz := free_blk (show z1.drew.heap[w.heap.size + 1]? = _ from Z4.out) 0
                simp at mz
                go_wp2_with fail
                refine bodyPost_ret (results_cell2 (i := 4) (j := 5) rfl rfl LZ rfl) rfl ?_
                rw [PE.out]
                exact ⟨none, 0, [], rfl, Ms.nil _, rfl, Nat.le_refl _, BZ.out⟩
              · rw [hw] at C1
                obtain ⟨hp, hz⟩ := look_pos GS.out hL
                have PT : Hid (cts (Lr.take (At.pos (cts Lr) x.id)) = At.below (cts Lr) x.id) := Lib.hid ((cts_take _ _).trans (At.take_pos GS.out x.id))
                have PD : Hid (cts (Lr.drop (At.pos (cts Lr) x.id + 1)) = At.above (cts Lr) x.id) := Lib.hid ((cts_drop _ _).trans (At.drop_pos1 GS.out hL))
                generalize At.pos (cts Lr) x.id = p at *
                have f1 : (p : Int) < (Lr.length : Int) := by omega
                have f2 : (0 : Int) ≤ (p : Int) := by omega
                obtain ⟨bl, ol, rfl, hbl, h0, h1, h2, h3, h4, h5⟩ := ros_at (GR.out.below WZ1.out) hp
                have HO := (GLr.out Lr[p] (List.getElem_mem hp)).1
                have SZ := (GLr.out Lr[p] (List.getElem_mem hp)).2.1
                have SM : Hid (∀ u, OldB z1 u → Calls Tryz.prog 44 #[roA Lr[p], roA x.o] u fun e w' => e = .returned (.bool (At.sameO Lr[p].c x.o.c)) ∧ Below u.heap.size u w') := Lib.hid (fun u hu => same_any Lr[p] x.o u (HO.below (WZ1.out.trans (Below.mono hu WZ1.out.size))) (DIH.out.o.below (WZ1.out.trans (Below.mono hu WZ1.out.size))) SZ DSH.out.2.1.1)
                generalize Lr[p] = y at *
                subst hz
                obtain ⟨A5, q5, v5, -⟩ := HO.rs
                obtain ⟨A6, q6, v6, -⟩ := HO.ts
                unfold roA at SM
                rw [v5, v6, v1, v2] at SM
                rw [v5] at h4
                rw [v6] at h5
                have K : ∀ {a : Addr} {v : Value}, a.block < z1.heap.size → z1.cell? a = some v → ∀ u, OldB z1 u → u.cell? a = some v := fun hp hc u hu => (World.cell?_of_block (w := z1) (hu.block _ hp)).trans hc
                have M0 := K (a := ⟨w.heap.size, 0, none⟩) (by show w.heap.size < _; omega) (cell_of_row z1 w.heap.size 0 _ _ _ Z0.out)
                have E0 := K (a := ⟨bl, _, none⟩) hbl h0
                have E1 := K (a := ⟨bl, _, none⟩) hbl h1
                have E2 := K (a := ⟨bl, _, none⟩) hbl h2
                have E3 := K (a := ⟨bl, _, none⟩) hbl h3
                have E4 := K (a := ⟨bl, _, none⟩) hbl h4
                have E5 := K (a := ⟨bl, _, none⟩) hbl h5
                have D3 : ∀ u, OldB z1 u → u.cell? ⟨wr.heap.size, 3, none⟩ = some (.string (mkB x.o.c.id)) := fun u hu => KX.out u hu 3 _ rfl
                have D4 : ∀ u, OldB z1 u → u.cell? ⟨wr.heap.size, 4, none⟩ = some (.int .i64 x.o.c.kind) := fun u hu => KX.out u hu 4 _ rfl
                have D5 : ∀ u, OldB z1 u → u.cell? ⟨wr.heap.size, 5, none⟩ = some (.int .i64 x.o.c.x) := fun u hu => KX.out u hu 5 _ rfl
                have D6 : ∀ u, OldB z1 u → u.cell? ⟨wr.heap.size, 6, none⟩ = some (.int .i64 x.o.c.y) := fun u hu => KX.out u hu 6 _ rfl
                have D7 : ∀ u, OldB z1 u → u.cell? ⟨wr.heap.size, 7, none⟩ = some (.slice A1 x.o.c.refs.length q1) := fun u hu => KX.out u hu 7 _ rfl
                have D8 : ∀ u, OldB z1 u → u.cell? ⟨wr.heap.size, 8, none⟩ = some (.slice A2 x.o.c.tags.length q2) := fun u hu => KX.out u hu 8 _ rfl
                clear HO SZ v5 v6 K h0 h1 h2 h3 h4 h5
                go_upto_region 16 with fail
                (refine wp_region_noPanic ?_; refine wp_region_held_drew (S := (OldB z1)) (by kernel_rfl) ?_ (fun hHeld => ?_); exact Below.drew (Below.refl _ _))
                (refine tkW 0 ?_; try simp only [gmS])
                (refine tkW 1 ?_; try simp only [gmS])
                (refine tkW 2 ?_; try simp only [gmS])
                (refine tkW 3 ?_; try simp only [gmS])
                (refine tkW 4 ?_; try simp only [gmS])
                (refine tkW 5 ?_; try simp only [gmS])
                (refine tkW 6 ?_; try simp only [gmS])
                (refine tkW 7 ?_; try simp only [gmS])
                (refine tkW 8 ?_; try simp only [gmS])
                (refine tkW 9 ?_; try simp only [gmS])
                (refine tkW 10 ?_; try simp only [gmS])
                (refine tkW 11 ?_; try simp only [gmS])
                (refine tkW 12 ?_; try simp only [gmS])
                (refine tkW 13 ?_; try simp only [gmS])
                (refine rdW 14 (fun K hK => ?_); go_simp)
                refine (SM.out _ hHeld).mono ?_
                rintro e z2 ⟨rfl, b2⟩
                (refine hK.out _ _ (OldB.then hHeld b2) (fun hHeld2 => ?_); clear hK K hHeld; have hHeld := hHeld2; clear hHeld2; try simp only [gmS])
                (refine tkW 15 ?_; try simp only [gmS])
                (refine tkW 16 ?_; try simp only [gmS])
                (refine tkW 17 ?_; try simp only [gmS])
                have HH := Lib.hid hHeld
                (refine wpAnyH_done (by kernel_rfl) ?_ _; refine NoPanic.normal ?_)
                clear hHeld C1 b2 SM M0 E0 E1 E2 E3 E4 E5 D3 D4 D5 D6 D7 D8
                have WE := Lib.hid (WZ1.out.trans (Below.mono HH.out WZ1.out.size))
                have R4 := (HH.out.block _ (by omega)).trans Z4.out
                cases hs : At.sameO y.c x.o.c
                · have PE : Hid (At.patchF (cts l) (ds.map DV.d) = ([], 12)) := Lib.hid (by rw [GP.out, GK.out, At.patchGo, if_neg (by show ¬ At.fitB (At.look (cts Lr) x.id) x.d = true; rw [hL]; unfold At.fitB; simp [DV.d, hw, hs])])
                  have BZ : Hid (Below w.heap.size w (z2.setCell ⟨w.heap.size + 1, 0, none⟩ (.slice none 0 0))) := Lib.hid (WE.out.setCell (by show w.heap.size ≤ w.heap.size + 1; omega) _)
                  have LZ := load_map (one_setCell R4 (u := .slice none 0 0))
                  have mz := cell_of_row z2 (w.heap.size + 1) 0 _ _ _ R4
                  have fz := free_blk R4 0
                  simp at mz
                  go_wp2_with fail
                  refine bodyPost_ret (results_cell2 (i := 4) (j := 5) rfl rfl LZ rfl) rfl ?_
                  rw [PE.out]
                  exact ⟨none, 0, [], rfl, Ms.nil _, rfl, Nat.le_refl _, BZ.out⟩
                · have FIT : At.fitB (At.look (cts Lr) x.id) x.d = true := by rw [hL]; unfold At.fitB; simp [DV.d, hw, hs]
                  have w1 : IntKind.i64.wrap ((p : Int) + 1) = (p : Int) + 1 := IntWalk.i64_in _ (by have := HN.out; omega)
                  have f4 : (0 : Int) ≤ (p : Int) + 1 := by omega
                  have STP : Hid (At.patchF (cts l) (ds.map DV.d) = (match At.patchGo (cts Ou ++ At.stepOut (cts Lr) x.d) (At.above (cts Lr) x.id) ((ds.drop (k + 1)).map DV.d) with | none => ([], 12) | some r => (r, 0))) := Lib.hid (by rw [GP.out, GK.out, At.patchGo, if_pos (show At.fitB (At.look (cts Lr) x.d.id) x.d = true from FIT)]; rfl)
                  have zz := HH.out.size
                  have Y0 := Lib.hid ((HH.out.block _ (by omega)).trans Z0.out)
                  have Y2 := Lib.hid ((HH.out.block bo (by omega)).trans Z2.out)
                  have Y4 := Lib.hid ((HH.out.block (w.heap.size + 1) (by omega)).trans Z4.out)
                  have YX := Lib.hid ((HH.out.block wr.heap.size (by omega)).trans ZX.out)
                  have YW := Lib.hid (own_same ZW.out (fun g hg => HH.out.block g (by have := (ZW.out.lt g hg).2; omega)))
                  have M0 : z2.drew.cell? ⟨w.heap.size, 0, none⟩ = some (.slice (some ⟨bl, ol, none⟩) Lr.length c') := by have := cell_of_row z2.drew w.heap.size 0 _ _ _ (show z2.drew.heap[w.heap.size]? = _ from Y0.out); simpa using this
                  have B0 : z2.drew.cell? ⟨bo, 0, none⟩ = some vo := by have := cell_of_row z2.drew bo 0 _ _ _ (show z2.drew.heap[bo]? = _ from Y2.out); simpa using this
                  have f3 : (p : Int) ≤ (c' : Int) := by omega
                  have f5 : (p : Int) ≤ (Lr.length : Int) := by omega
                  have RT := Lib.hid (rd_upto (p := p) (GR.out.below WE.out))
                  have RF := Lib.hid (rd_from GR.out (show (p + 1) ≤ Lr.length by omega) gc)
                  have TL : (rosC (Lr.take p)).length = p * 6 := by rw [rosC_len, List.length_take]; omega
                  have ON := Lib.hid (ros_one (w := w) (l := Lr.take p) (fun r hr => (GLr.out r (List.mem_of_mem_take hr)).1))
                  have BZ2 : Hid (Below (bo + 1) z2 z2.drew) := Lib.hid (Below.drew (Below.refl _ _))
                  clear FIT GP GK Z0 Z2 Z4 ZX ZW KX
                  go_upto_region 18 with fail
                  (refine wp_region_noPanic ?_; refine wp_region_held_drew (S := (fun u : World => u.cell? ⟨w.heap.size, 0, none⟩ = some (.slice (some ⟨bl, ol, none⟩) Lr.length c'))) (by kernel_rfl) ?_ (fun hHeld => ?_); exact M0)
                  (refine tkW 0 ?_; try simp only [gmS])
                  (refine tkW 2 ?_; try simp only [gmS])
                  (refine tkW 3 ?_; try simp only [gmS])
                  (refine tkW 4 ?_; try simp only [gmS])
                  (refine tkW 5 ?_; try simp only [gmS])
                  (refine rdW 1 (fun K hK => ?_); go_simp)
                  (refine hK.out _ _ M0 (fun hHeld2 => ?_); clear hK K hHeld; have hHeld := hHeld2; clear hHeld2; try simp only [gmS])
                  (refine rdW 6 (fun K hK => ?_))
                  refine step_appRS (by simp [Region.wanted, yielded]) (.tmp 103) (.tmp 107) 22 rfl Tryz.underlying22 info_ob rfl (by decide) (bo + 1) vo Ou.length (rosC Ou) _ p _ (rosC (Lr.take p)) ON.out rfl rfl (own_same YW.out (fun g hg => rfl)) RT.out TL (by show bo + 1 ≤ z2.heap.size; omega) (by have := HN.out; omega) (by have := HN.out; omega) ?_
                  intro v7 w7 o7 b7 g7
                  obtain ⟨A7, c7, ev7, -⟩ := own_sl o7
                  subst ev7
                  have B7 := Lib.hid (show Below (bo + 1) z2 w7 from BZ2.out.trans b7)
                  have M7 : w7.cell? ⟨w.heap.size, 0, none⟩ = some (.slice (some ⟨bl, ol, none⟩) Lr.length c') := (World.cell?_of_block (w := z2.drew) (b7.block _ (by show w.heap.size < bo + 1; omega))).trans M0
                  have F7 : w7.frozen? ⟨bo, 0, none⟩ = false := free_blk ((B7.out.block bo (by omega)).trans Y2.out) 0
                  have C7 : w7.cell? ⟨bo, 0, none⟩ = some vo := (World.cell?_of_block (w := z2.drew) (b7.block _ (by show bo < bo + 1; omega))).trans B0
                  have O7 := Lib.hid o7
                  have G7 := Lib.hid g7
                  clear o7 b7 g7 B0
                  (refine hK.out _ _ M7 (fun hHeld2 => ?_); clear hK K hHeld; have hHeld := hHeld2; clear hHeld2; try simp only [gmS])
                  (refine tkW 7 ?_; try simp only [gmS])
                  (refine rdW 8 (fun K hK => ?_); go_simp)
                  (refine hK.out _ _ ((World.cell?_setCell_far w7 ⟨bo, 0, none⟩ ⟨w.heap.size, 0, none⟩ (.slice A7 (Ou.length + p) c7) (by show bo ≠ w.heap.size; omega)).trans M7) (fun hHeld2 => ?_); clear hK K hHeld; have hHeld := hHeld2; clear hHeld2; try simp only [gmS])
                  (refine wpAnyH_done (by kernel_rfl) ?_ _; refine NoPanic.normal ?_)
                  have lb0 : w.heap.size < bo + 1 := by omega
                  have lb4 : w.heap.size + 1 < bo + 1 := by omega
                  have U0 : Hid ((w7.setCell ⟨bo, 0, none⟩ (.slice A7 (Ou.length + p) c7)).heap[w.heap.size]? = _) := Lib.hid ((Below.heap_setCell _ _ _ _ (by show w.heap.size ≠ bo; omega)).trans ((B7.out.block _ lb0).trans Y0.out))
                  have U4 : Hid ((w7.setCell ⟨bo, 0, none⟩ (.slice A7 (Ou.length + p) c7)).heap[w.heap.size + 1]? = _) := Lib.hid ((Below.heap_setCell _ _ _ _ (by show w.heap.size + 1 ≠ bo; omega)).trans ((B7.out.block _ lb4).trans Y4.out))
                  have U2 : Hid ((w7.setCell ⟨bo, 0, none⟩ (.slice A7 (Ou.length + p) c7)).heap[bo]? = _) := Lib.hid (one_setCell ((B7.out.block bo (by omega)).trans Y2.out))
                  have UX : Hid ((w7.setCell ⟨bo, 0, none⟩ (.slice A7 (Ou.length + p) c7)).heap[wr.heap.size]? = _) := Lib.hid ((Below.heap_setCell _ _ _ _ (by show wr.heap.size ≠ bo; omega)).trans ((G7.out.block wr.heap.size (by show wr.heap.size < z2.heap.size; omega) (fun e => by have := GN.out _ e.symm; omega)).trans YX.out))
                  have UW : Hid ((w7.setCell ⟨bo, 0, none⟩ (.slice A7 (Ou.length + p) c7)).ownsRow (bo + 1) 43 6 (.slice A7 (Ou.length + p) c7) (Ou.length + p) (rosC Ou ++ rosC (Lr.take p))) := Lib.hid (own_same O7.out (fun g hg => Below.heap_setCell _ _ _ _ (fun e => by have := (O7.out.lt g hg).1; have e' : g = bo := e; omega)))
                  have UB : Hid (Below w.heap.size w (w7.setCell ⟨bo, 0, none⟩ (.slice A7 (Ou.length + p) c7))) := Lib.hid ((WE.out.trans ((B7.out.mono (by omega)).mono (Nat.le_refl _))).setCell (by show w.heap.size ≤ bo; omega) _)
                  clear hHeld M7 F7 C7 M0 O7 G7 B7 Y0 Y2 Y4 YX YW RT ON
                  generalize w7.setCell ⟨bo, 0, none⟩ (.slice A7 (Ou.length + p) c7) = U at *
                  have m0 : U.cell? ⟨w.heap.size, 0, none⟩ = some (.slice (some ⟨bl, ol, none⟩) Lr.length c') := by have := cell_of_row U w.heap.size 0 _ _ _ U0.out; simpa using this
                  have mf := free_blk U0.out 0
                  have bzU := (UX.out)
                  have y2 : U.cell? ⟨wr.heap.size, 2, none⟩ = some (.bool x.is) := by have := cell_of_row U wr.heap.size 2 _ _ _ UX.out; simpa [dlL] using this
                  cases hi : x.is
                  · have SO : Hid (At.stepOut (cts Lr) x.d = cts (Lr.take p)) := Lib.hid (by rw [PT.out]; unfold At.stepOut; simp [DV.d, hi])
                    have UW2 : Hid (U.ownsRow (bo + 1) 43 6 (.slice A7 (Ou.length + p) c7) (Ou ++ Lr.take p).length (rosC (Ou ++ Lr.take p))) := Lib.hid (by rw [rosC_app, List.length_append, List.length_take, Nat.min_eq_left (by omega)]; exact UW.out)
                    have SP : Hid (At.patchF (cts l) (ds.map DV.d) = (match At.patchGo (cts (Ou ++ Lr.take p)) (cts (Lr.drop (p + 1))) ((ds.drop (k + 1)).map DV.d) with | none => ([], 12) | some r => (r, 0))) := Lib.hid (by rw [STP.out, SO.out, PD.out]; simp [cts])
                    rw [hi] at y2
                    clear SO STP UW bzU
                    go_wp2_with fail
                    exact ⟨⟨k + 1, by omega, by go_num, ⟨_, rfl⟩, ⟨_, rfl⟩, ⟨_, rfl⟩, Lib.hid (PS.next (Lr := Lr.drop (p + 1)) (Ou := Ou ++ Lr.take p) (by rw [List.length_drop]) hbw UB.out U0.out U2.out U4.out UW2.out RF.out (fun r hr => GLr.out r (List.mem_of_mem_drop hr)) (by rw [List.length_drop]; omega) (by rw [cts_drop]; exact At.srt_drop GS.out _)
                      (fun r hr => (List.mem_append.1 hr).elim (GOr.out r) (fun h => GLr.out r (List.mem_of_mem_take h))) (by rw [List.length_append, List.length_take, List.length_drop]; omega) (by rw [List.length_drop]; omega) SP.out)⟩, by simp [intOf]; omega⟩
                  · have SO : Hid (At.stepOut (cts Lr) x.d = cts (Lr.take p ++ [x.n])) := Lib.hid (by
                      have e : cts (Lr.take p ++ [x.n]) = cts (Lr.take p) ++ [x.n.c] := by simp [cts]
                      rw [e, PT.out]; unfold At.stepOut; simp [DV.d, hi])
                    have SP : Hid (At.patchF (cts l) (ds.map DV.d) = (match At.patchGo (cts (Ou ++ (Lr.take p ++ [x.n]))) (cts (Lr.drop (p + 1))) ((ds.drop (k + 1)).map DV.d) with | none => ([], 12) | some r => (r, 0))) := Lib.hid (by rw [STP.out, SO.out, PD.out]; simp [cts])
                    rw [hi] at y2
                    have RC : Hid (rosC [x.n] = [.string (mkB x.n.c.id), .int .i64 x.n.c.kind, .int .i64 x.n.c.x, .int .i64 x.n.c.y, .slice A3 x.n.c.refs.length q3, .slice A4 x.n.c.tags.length q4]) := Lib.hid (by simp [rosC, roC, v3, v4])
                    have ZC : ∀ (f : Nat) (v : Value), (dlL x A1 q1 A2 q2 A3 q3 A4 q4)[f]? = some v → U.cell? ⟨wr.heap.size, f, none⟩ = some v := fun f v hv => (cell_of_row U wr.heap.size f _ _ _ UX.out).trans (by simpa using hv)
                    unfold dlL at ZC
                    have z9 := ZC 9 _ rfl
                    have z10 := ZC 10 _ rfl
                    have z11 := ZC 11 _ rfl
                    have z12 := ZC 12 _ rfl
                    have z13 := ZC 13 _ rfl
                    have z14 := ZC 14 _ rfl
                    have zo : U.cell? ⟨bo, 0, none⟩ = some (.slice A7 (Ou.length + p) c7) := by have := cell_of_row U bo 0 _ _ _ U2.out; simpa using this
                    have ubz : bo + 1 ≤ U.heap.size := by have := (Array.getElem?_eq_some_iff.1 U2.out).1; omega
                    clear SO STP bzU ZC
                    go_wp2_with (at_builtin; refine wpList_appN rfl (.tmp 113) (.tmp 116) 22 rfl Tryz.underlying22 info_ob rfl (by decide) (bo + 1) _ (Ou.length + p) (rosC Ou ++ rosC (Lr.take p)) _ 1 (by decide) rfl (by intro y hy; simp at hy; rcases hy with rfl | rfl | rfl | rfl | rfl | rfl <;> rfl) rfl rfl rfl UW.out ubz (by have := HN.out; omega) (by have := HN.out; omega) ?_; intro g8 c8 w8 ho8 hg8 hl8 hb8; have HO8 := Lib.hid ho8; have HB8 := Lib.hid hb8; have n8 : w8.cell? ⟨w.heap.size, 0, none⟩ = some (.slice (some ⟨bl, ol, none⟩) Lr.length c') := (hb8.cell (p := ⟨w.heap.size, 0, none⟩) lb0).trans m0; have k8 : w8.frozen? ⟨bo, 0, none⟩ = false := free_blk ((hb8.block bo (by omega)).trans U2.out) 0; have k9 : w8.frozen? ⟨w.heap.size, 0, none⟩ = false := free_blk ((hb8.block w.heap.size lb0).trans U0.out) 0; have k7 : w8.cell? ⟨bo, 0, none⟩ = some (.slice A7 (Ou.length + p) c7) := (hb8.cell (p := ⟨bo, 0, none⟩) (by show bo < bo + 1; omega)).trans zo; clear ho8 hg8 hl8 hb8 m0 mf zo z9 z10 z11 z12 z13 z14 y2)
                    have h0 := (Below.heap_setCell w8 ⟨bo, 0, none⟩ (.slice (some ⟨g8, 0, none⟩) (Ou.length + p + 1) c8) w.heap.size (by show w.heap.size ≠ bo; omega)).trans ((HB8.out.block _ lb0).trans U0.out)
                    have h4 := (Below.heap_setCell w8 ⟨bo, 0, none⟩ (.slice (some ⟨g8, 0, none⟩) (Ou.length + p + 1) c8) (w.heap.size + 1) (by show w.heap.size + 1 ≠ bo; omega)).trans ((HB8.out.block _ lb4).trans U4.out)
                    have h2 := one_setCell (u := .slice (some ⟨g8, 0, none⟩) (Ou.length + p + 1) c8) ((HB8.out.block bo (by omega)).trans U2.out)
                    have hw' : (w8.setCell ⟨bo, 0, none⟩ (.slice (some ⟨g8, 0, none⟩) (Ou.length + p + 1) c8)).ownsRow (bo + 1) 43 6 (.slice (some ⟨g8, 0, none⟩) (Ou.length + p + 1) c8) (Ou ++ (Lr.take p ++ [x.n])).length (rosC (Ou ++ (Lr.take p ++ [x.n]))) := by
                      have e1 : (Ou ++ (Lr.take p ++ [x.n])).length = Ou.length + p + 1 := by rw [List.length_append, List.length_append, List.length_take, Nat.min_eq_left (by omega)]; simp; omega
                      have e2 : rosC (Ou ++ (Lr.take p ++ [x.n])) = rosC Ou ++ rosC (Lr.take p) ++ [.string (mkB x.n.c.id), .int .i64 x.n.c.kind, .int .i64 x.n.c.x, .int .i64 x.n.c.y, .slice A3 x.n.c.refs.length q3, .slice A4 x.n.c.tags.length q4] := by rw [rosC_app, rosC_app, RC.out, List.append_assoc]
                      rw [e1, e2]
                      exact own_same HO8.out (fun g hg => Below.heap_setCell _ _ _ _ (fun e => by have := (HO8.out.lt g hg).1; have e' : g = bo := e; omega))
                    exact ⟨⟨k + 1, by omega, by go_num, ⟨_, rfl⟩, ⟨_, rfl⟩, ⟨_, rfl⟩, Lib.hid (PS.next (Lr := Lr.drop (p + 1)) (Ou := Ou ++ (Lr.take p ++ [x.n])) (by rw [List.length_drop]) hbw ((UB.out.trans (HB8.out.mono (by omega))).setCell (by show w.heap.size ≤ bo; omega) _) h0 h2 h4 hw' RF.out (fun r hr => GLr.out r (List.mem_of_mem_drop hr)) (by rw [List.length_drop]; omega) (by rw [cts_drop]; exact At.srt_drop GS.out _)
                      (fun r hr => (List.mem_append.1 hr).elim (GOr.out r) (fun h => (List.mem_append.1 h).elim (fun h => GLr.out r (List.mem_of_mem_take h)) (fun h => by rw [List.mem_singleton.1 h]; exact ⟨DIH.out.n, DSH.out.2.2⟩))) (by rw [List.length_append, List.length_append, List.length_take, List.length_drop]; simp; omega) (by rw [List.length_drop]; omega) SP.out)⟩, by simp [intOf]; omega⟩
          · have d1 : ¬ (k : Int) < (m : Int) := by omega
            have GP : Hid (At.patchF (cts l) (ds.map DV.d) = (cts (Ou ++ Lr), 0)) := Lib.hid (by rw [gP, List.drop_eq_nil_of_le (by rw [← HMn.out]; omega)]; simp [At.patchGo, cts])
            obtain ⟨A9, c9, ev9, -⟩ := own_sl gW
            subst ev9
            have m0 := cell_of_row wr w.heap.size 0 _ _ _ g0
            have b0 := cell_of_row wr bo 0 _ _ _ g2
            simp at m0 b0
            have lo : bo + 1 ≤ wr.heap.size := by have := (Array.getElem?_eq_some_iff.1 g2).1; omega
            have G0 := Lib.hid g0
            have G2 := Lib.hid g2
            have G4 := Lib.hid g4
            have GW := Lib.hid gW
            have GR := Lib.hid (gR.below gB)
            have GO := Lib.hid gO
            have GOr := Lib.hid gOr
            have GZ := Lib.hid gZ
            have GB := Lib.hid gB
            have ON := Lib.hid (ros_one (w := w) (l := Lr) gO)
            have bn : (Ou.length : Int) + (Lr.length : Int) ≤ 100000 := by have := HN.out; omega
            have bd : decide ((1000000 : Int) < (Ou.length : Int) + (Lr.length : Int)) = false := by simp; omega
            clear g0 g2 g4 gW gR gO gOr gZ gB gP gS PSH
            go_wp2_with (at_builtin; refine wpList_appRS rfl (.tmp 129) (.tmp 131) 22 rfl Tryz.underlying22 info_ob rfl (by decide) (bo + 1) _ Ou.length (rosC Ou) _ Lr.length c' (rosC Lr) ON.out rfl rfl GW.out GR.out (rosC_len Lr) lo (by omega) (by omega) ?_; intro v7 w7 o7 b7 g7; obtain ⟨A7, c7, ev7, -⟩ := own_sl o7; subst ev7; have O7 := Lib.hid o7; have B7 := Lib.hid b7; have k7 : w7.cell? ⟨bo, 0, none⟩ = some (.slice A9 Ou.length c9) := (b7.cell (p := ⟨bo, 0, none⟩) (by show bo < bo + 1; omega)).trans b0; have k8 : w7.frozen? ⟨bo, 0, none⟩ = false := free_blk ((b7.block bo (by omega)).trans G2.out) 0; have k9 : w7.frozen? ⟨w.heap.size + 1, 0, none⟩ = false := free_blk ((b7.block (w.heap.size + 1) (by omega)).trans G4.out) 0; have k6 : w7.cell? ⟨w.heap.size + 1, 0, none⟩ = some (.slice none 0 0) := (by have := cell_of_row w7 (w.heap.size + 1) 0 _ _ _ ((b7.block (w.heap.size + 1) (by omega)).trans G4.out); simpa using this); clear o7 b7 g7 m0 b0)
            have h8 := (B7.out.block bo (by omega)).trans G2.out
            have h4 := (B7.out.block (w.heap.size + 1) (by omega)).trans G4.out
            obtain ⟨LZ, FIN⟩ := MapE_fin (w := w) (R := Ou ++ Lr) (by rw [rosC_app]; exact O7.out) (by rw [List.length_append]) h8 h4 (own_ne_map O7.out h8) (own_ne_map O7.out h4) (by omega) (by omega) (by omega) (GB.out.trans (B7.out.mono (by omega)))
              (fun r hr => (List.mem_append.1 hr).elim (GOr.out r) (fun h => ⟨GO.out r h, GZ.out r h⟩)) (by rw [List.length_append]; omega)
            refine bodyPost_ret (results_cell2 (i := 4) (j := 5) rfl rfl LZ rfl) rfl ?_
            rw [GP.out]
            exact FIN
end Go.Proofs.YtlejeelmlclnkaaGreatDoor
