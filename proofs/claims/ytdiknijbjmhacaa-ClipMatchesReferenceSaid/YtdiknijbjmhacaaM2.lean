/- WALKS: Ring, by the reference (printed by gen_m2.py). -/
import Derived.Test.YtdiknijbjmhacaaM1
import Derived.Test.YtdiknijbjmhacaaF5
import Derived.Test.YtdiknijbjmhacaaL1
set_option linter.unusedSimpArgs false
set_option linter.unusedVariables false
namespace Go.Proofs.Ytdiknijbjmhacaa
open Go.RowKit
attribute [local go_sem ↓] Go.wp_at_zero Go.wp_at_succ

/-- the variables of a round: the box, the point, the point before -/
structure IV (w : World) (gb p8 p9 : Nat) (x0 y0 x1 y1 qx qy px py : Int) : Prop where
  b : BoxAt w gb ⟨x0, y0, x1, y1⟩
  q : w.heap[p8]? = some (.cells #[.int .i64 qx, .int .i64 qy] 24 (0, 0))
  p : w.heap[p9]? = some (.cells #[.int .i64 px, .int .i64 py] 24 (0, 0))
section
variable {w w' : World} {gb p8 p9 : Nat} {x0 y0 x1 y1 qx qy px py : Int}
theorem IV.below (h : IV w gb p8 p9 x0 y0 x1 y1 qx qy px py) (hb : Below w.heap.size w w') : IV w' gb p8 p9 x0 y0 x1 y1 qx qy px py :=
  ⟨h.b.below hb h.b.lt, (hb.block _ (lt_of_block h.q)).trans h.q, (hb.block _ (lt_of_block h.p)).trans h.p⟩
theorem IV.cells (h : IV w gb p8 p9 x0 y0 x1 y1 qx qy px py) :
    w.cell? ⟨p8, 0, none⟩ = some (.int .i64 qx) ∧ w.cell? ⟨p8, 1, none⟩ = some (.int .i64 qy) ∧ w.cell? ⟨p9, 0, none⟩ = some (.int .i64 px) ∧ w.cell? ⟨p9, 1, none⟩ = some (.int .i64 py) ∧ w.cell? ⟨gb, 0, none⟩ = some (.int .i64 x0) ∧ w.cell? ⟨gb, 1, none⟩ = some (.int .i64 y0) ∧ w.cell? ⟨gb, 2, none⟩ = some (.int .i64 x1) ∧ w.cell? ⟨gb, 3, none⟩ = some (.int .i64 y1) :=
  ⟨(cell_two h.q).1, (cell_two h.q).2, (cell_two h.p).1, (cell_two h.p).2, h.b.c.1, h.b.c.2.1, h.b.c.2.2.1, h.b.c.2.2.2⟩
theorem IV.grown {base lo : Nat} {o : Obj} {row : Option Nat} (h : IV w gb p8 p9 x0 y0 x1 y1 qx qy px py) (hg : (w.alloc o).grownBy w' row) (hr : ∀ r, row = some r → base ≤ r ∧ r < lo) (h1 : gb < base) (h2 : lo ≤ p8) (h3 : lo ≤ p9) : IV w' gb p8 p9 x0 y0 x1 y1 qx qy px py := by
  have key : ∀ k, k < w.heap.size → (∀ r, row = some r → r ≠ k) → w'.heap[k]? = w.heap[k]? := fun k hk hn => (hg.block k (by simp; omega) (fun e => hn k e.symm rfl)).trans (alloc_old _ _ hk)
  exact ⟨(key _ (lt_of_block h.b) (fun r hr' => by have := hr r hr'; omega)).trans h.b, (key _ (lt_of_block h.q) (fun r hr' => by have := hr r hr'; omega)).trans h.q, (key _ (lt_of_block h.p) (fun r hr' => by have := hr r hr'; omega)).trans h.p⟩
end
set_option maxRecDepth 10000 in
set_option maxHeartbeats 40000000 in
theorem rring_any (A : Option Addr) (n c : Nat) (l : List Cl.Pt) (x0 y0 x1 y1 : Int) (w : World) (hn : n = l.length) (hl : n ≤ 4000) (h : Rp w A l) :
    Calls Try.prog 16 #[.slice A n c, .agg #[.int .i64 x0, .int .i64 y0, .int .i64 x1, .int .i64 y1]] w (PtsPost w (clipR l ⟨x0, y0, x1, y1⟩)) := by
  have B0 : Hid (Below w.heap.size w (w.alloc (.cells #[.int .i64 x0, .int .i64 y0, .int .i64 x1, .int .i64 y1] 26))) := (Below.refl _ _).alloc (Nat.le_refl _) _
  have X0 : Hid (BoxAt (w.alloc (.cells #[.int .i64 x0, .int .i64 y0, .int .i64 x1, .int .i64 y1] 26)) w.heap.size ⟨x0, y0, x1, y1⟩) := Lib.hid (heap_alloc_new w _)
  have PR := Lib.hid (fun u => rproper_any x0 y0 x1 y1 u)
  have NR := Lib.hid (fun u (hu : Rp u A l) => rnear_any A n c l u hn (by omega) hu)
  have H := Lib.hid h; have HN := Lib.hid hn; clear h hn
  have HP : Hid (clipR l ⟨x0, y0, x1, y1⟩ = if (Cl.boxB ⟨x0, y0, x1, y1⟩ && l.all fun p => Cl.nearB p.1 p.2) then Cl.aroundF (stepsF ⟨x0, y0, x1, y1⟩ l 4) else []) := Lib.hid rfl
  have HNR : Hid ((l.all fun p => Cl.nearB p.1 p.2) = true → Near l) := Lib.hid (fun h => by rw [List.all_eq_true] at h; exact fun p hx => h p hx)
  have HBX : Hid (Cl.boxB ⟨x0, y0, x1, y1⟩ = true → Cl.boxB ⟨x0, y0, x1, y1⟩ = true) := Lib.hid (fun h => h)
  generalize hbo : Cl.boxB ⟨x0, y0, x1, y1⟩ = bo at PR HP
  generalize hno : (l.all fun p => Cl.nearB p.1 p.2) = no at NR HP
  have HBO := Lib.hid hbo; have HNO := Lib.hid hno; clear hbo hno HBX
  go_enter Try.func16, Try.ntmps16
  go_wp2_with fail
  refine (PR.out _).mono ?_
  rintro e w1 ⟨rfl, hb1⟩
  have X1 := Lib.hid (X0.out.below hb1 (by simp))
  have bw1 := Lib.hid (B0.out.trans (hb1.mono B0.out.size)); clear hb1 B0 X0 PR
  rcases bo with _ | _
  · go_wp2_with fail
    go_ret
    exact ⟨none, 0, by rw [HP.out]; rfl, by rw [HP.out]; exact Rd.nil_ _ _, by rw [HP.out]; simp [maxLen], bw1.out⟩
  · go_wp2_with fail
    refine (NR.out _ (H.out.below bw1.out)).mono ?_
    rintro e w2 ⟨rfl, hb2⟩
    have X2 := Lib.hid (X1.out.below hb2 X1.out.lt)
    have bq := Lib.hid (bw1.out.trans (hb2.mono bw1.out.size)); clear hb2 bw1 X1 NR
    rcases no with _ | _
    · go_wp2_with fail
      go_ret
      exact ⟨none, 0, by rw [HP.out]; rfl, by rw [HP.out]; exact Rd.nil_ _ _, by rw [HP.out]; simp [maxLen], bq.out⟩
    · have HQ : Hid (clipR l ⟨x0, y0, x1, y1⟩ = Cl.aroundF (stepsF ⟨x0, y0, x1, y1⟩ l 4)) := Lib.hid (by rw [HP.out]; rfl)
      have HNL := Lib.hid (HNR.out HNO.out)
      clear HP HNR HNO
      have XB : Hid (∀ u, Below w2.heap.size w2 u → BoxAt u w.heap.size ⟨x0, y0, x1, y1⟩) := Lib.hid (fun u hu => X2.out.below hu X2.out.lt)
      have hz2 : w.heap.size < w2.heap.size := X2.out.lt
      go_wp2_with fail
      go_loopw [0, 5] (fun r i wr => ∃ (j m cc : Nat) (AA : Option Addr), j ≤ 4 ∧ i = .int .i64 j ∧ r = .slice AA m cc ∧ Hid (m = (stepsF ⟨x0, y0, x1, y1⟩ l j).length) ∧ Hid (Rp wr AA (stepsF ⟨x0, y0, x1, y1⟩ l j)) ∧ Hid (Below w2.heap.size w2 wr)) (fun _ i _ => 4 - (intOf i).toNat)
      case atStart => exact ⟨0, n, c, A, by omega, rfl, rfl, HN, Lib.hid (H.out.below bq.out), Lib.hid (Below.refl _ _)⟩
      case round =>
        obtain ⟨j, m, cc, AA, hj, rfl, rfl, hm, hA, hB⟩ := hrel
        by_cases hlt : j < 4
        · have d4 : decide ((j : Int) < 4) = true := by simp; omega
          have d5 : decide (j < 4) = true := by simp; omega
          obtain ⟨wx, hwx⟩ : ∃ W, W = wr := ⟨_, rfl⟩; rw [← hwx] at hA hB ⊢; clear hwx
          obtain ⟨L, hL⟩ : ∃ L, L = stepsF ⟨x0, y0, x1, y1⟩ l j := ⟨_, rfl⟩
          rw [← hL] at hm hA
          have NL : Hid (Near L) := Lib.hid (by rw [hL]; exact steps_near HNL.out j)
          have hLl : m ≤ 32000 := by
            have h1 := steps_len ⟨x0, y0, x1, y1⟩ l j
            rw [← hL, ← hm.out, ← HN.out] at h1
            have h2 : 2 ^ j ≤ 8 := by have h4 : j = 0 ∨ j = 1 ∨ j = 2 ∨ j = 3 := by omega
                                      rcases h4 with rfl | rfl | rfl | rfl <;> decide
            have h3 : 2 ^ j * n ≤ 8 * 4000 := Nat.mul_le_mul h2 hl
            omega
          have HLs := Lib.hid hL; clear hL
          have hzx : w.heap.size < wx.heap.size := Nat.lt_of_lt_of_le hz2 hB.out.size
          go_wp2_with fail
          go_loopw [6, 7] (fun nv i wi => ∃ k : Nat, k ≤ m ∧ i = .int .i64 k ∧ Hid (NX wx wi nv (ringI ⟨x0, y0, x1, y1⟩ j L k))) (fun _ i _ => m - (intOf i).toNat)
          case atStart => exact ⟨0, by omega, rfl, Lib.hid ⟨World.ownsRow_nil _ _ _ _, Below.refl _ _⟩⟩
          case round =>
            obtain ⟨k, hk, rfl, hnx⟩ := hrel
            obtain ⟨A8, c8, rfl, -, -⟩ := own_form hnx.out.own
            by_cases hkm : k < m
            · have hkl : k < L.length := by have := hm.out; omega
              obtain ⟨pi, hpi⟩ : ∃ pi, pi = prevI m k := ⟨_, rfl⟩
              have hpl : pi < L.length := by rw [hpi, hm.out]; exact prevI_lt hkl
              have hmod : ((k : Int) + (m : Int) - 1) % (m : Int) = (pi : Int) := by rw [hpi]; exact prevI_mod hkm
              have EP : Hid (prevP L k = L[pi]) := Lib.hid (by
                have := prevI_at hkl
                rw [← this]; congr 1; rw [hpi, hm.out])
              obtain ⟨b, off, rfl, hb, c0, c1⟩ := (hA.out.below hnx.out.bel).at_ hkl
              obtain ⟨b', off', e', hb', d0, d1⟩ := (hA.out.below hnx.out.bel).at_ hpl
              cases e'
              obtain ⟨qx, hqx⟩ : ∃ x, x = L[k].1 := ⟨_, rfl⟩
              obtain ⟨qy, hqy⟩ : ∃ x, x = L[k].2 := ⟨_, rfl⟩
              obtain ⟨px, hpx⟩ : ∃ x, x = L[pi].1 := ⟨_, rfl⟩
              obtain ⟨py, hpy⟩ : ∃ x, x = L[pi].2 := ⟨_, rfl⟩
              rw [← hqx] at c0; rw [← hqy] at c1; rw [← hpx] at d0; rw [← hpy] at d1
              have NQ := Lib.hid (NL.out _ (List.getElem_mem hkl)); have NP := Lib.hid (NL.out _ (List.getElem_mem hpl))
              rw [← hqx, ← hqy] at NQ; rw [← hpx, ← hpy] at NP
              have EQ : Hid ((qx, qy) = L[k]) := Lib.hid (by rw [hqx, hqy])
              have EP2 : Hid ((px, py) = prevP L k) := Lib.hid (by rw [EP.out, hpx, hpy])
              have STEP : Hid (ringI ⟨x0, y0, x1, y1⟩ j L (k + 1) = ringI ⟨x0, y0, x1, y1⟩ j L k ++ Cl.stepP ⟨x0, y0, x1, y1⟩ j (px, py) (qx, qy)) := Lib.hid (by rw [ringI_step _ _ hkl, EP2.out, EQ.out])
              have LEN : (ringI ⟨x0, y0, x1, y1⟩ j L k).length ≤ 64000 := by have := ringI_len ⟨x0, y0, x1, y1⟩ j L k (by omega); omega
              generalize ringI ⟨x0, y0, x1, y1⟩ j L k = G at *
              clear hqx hqy hpx hpy EP hpi
              have i1 : (0 : Int) ≤ (k : Int) + (m : Int) - 1 := by omega
              have i2 : (m : Int) ≠ 0 := by omega
              have i3 : (pi : Int) < (m : Int) := by have := hm.out; omega
              have i4 : pi < m := by have := hm.out; omega
              go_upto_region 12 with fail
              obtain ⟨W0, hW⟩ : ∃ W0, W0 = (wr.alloc (.cells #[.int .i64 qx, .int .i64 qy] 24)).alloc (.cells #[.int .i64 px, .int .i64 py] 24) := ⟨_, rfl⟩
              have BW0 : Below wr.heap.size wr W0 := by rw [hW]; exact ((Below.refl _ _).alloc (Nat.le_refl _) _).alloc (by simp) _
              have IW0 : Hid (IV W0 w.heap.size wr.heap.size (wr.heap.size + 1) x0 y0 x1 y1 qx qy px py) := Lib.hid (by
                have hf := XB.out wr (hB.out.trans (hnx.out.bel.mono hB.out.size))
                refine ⟨hf.below BW0 hf.lt, ?_, ?_⟩
                · rw [hW]; exact (alloc_old _ _ (by simp)).trans (alloc_new' _ _ _ rfl)
                · rw [hW]; exact alloc_new' _ _ _ (by simp))
              have NX0 := Lib.hid (hnx.out.below BW0)
              have hxr : wx.heap.size ≤ wr.heap.size := hnx.out.bel.size
              have RW := Lib.hid hnx.out.rows
              have hzr : wr.heap.size + 1 < W0.heap.size := lt_of_block IW0.out.p
              rw [← hW]
              clear hW BW0 c0 c1 d0 d1 i1 i2 i3 i4 hmod hb hb'
              have KPc := Lib.hid (fun u => rkept_any j hlt px py x0 y0 x1 y1 u)
              have KQc := Lib.hid (fun u => rkept_any j hlt qx qy x0 y0 x1 y1 u)
              have ACc := Lib.hid (fun u => racross_any j hlt px py qx qy x0 y0 x1 y1 u NP.out NQ.out HBO.out)
              generalize hAC : Cl.acr ⟨x0, y0, x1, y1⟩ j (px, py) (qx, qy) = ac at ACc
              have HAC := Lib.hid hAC; clear hAC
              rcases hkp : Cl.kept ⟨x0, y0, x1, y1⟩ j (px, py) with _ | _
              · rcases hkq : Cl.kept ⟨x0, y0, x1, y1⟩ j (qx, qy) with _ | _
                · skip
                  have HKP := Lib.hid hkp; have HKQ := Lib.hid hkq
                  rw [hkp] at KPc; rw [hkq] at KQc
                  have STP : Hid (Cl.stepP ⟨x0, y0, x1, y1⟩ j (px, py) (qx, qy) = []) := Lib.hid (by rw [stepP_ff hkp hkq])
                  clear hkp hkq
                  obtain ⟨a0, a1, a2, a3, a4, a5, a6, a7⟩ := IW0.out.cells
                  have T0 : ∀ w', OldOf W0.drew w' → w'.cell? ⟨wr.heap.size, 0, none⟩ = some (.int .i64 qx) := fun w' h => h.c (by exact a0)
                  have T1 : ∀ w', OldOf W0.drew w' → w'.cell? ⟨wr.heap.size, 1, none⟩ = some (.int .i64 qy) := fun w' h => h.c (by exact a1)
                  have T2 : ∀ w', OldOf W0.drew w' → w'.cell? ⟨wr.heap.size + 1, 0, none⟩ = some (.int .i64 px) := fun w' h => h.c (by exact a2)
                  have T3 : ∀ w', OldOf W0.drew w' → w'.cell? ⟨wr.heap.size + 1, 1, none⟩ = some (.int .i64 py) := fun w' h => h.c (by exact a3)
                  have T4 : ∀ w', OldOf W0.drew w' → w'.cell? ⟨w.heap.size, 0, none⟩ = some (.int .i64 x0) := fun w' h => h.c (by exact a4)
                  have T5 : ∀ w', OldOf W0.drew w' → w'.cell? ⟨w.heap.size, 1, none⟩ = some (.int .i64 y0) := fun w' h => h.c (by exact a5)
                  have T6 : ∀ w', OldOf W0.drew w' → w'.cell? ⟨w.heap.size, 2, none⟩ = some (.int .i64 x1) := fun w' h => h.c (by exact a6)
                  have T7 : ∀ w', OldOf W0.drew w' → w'.cell? ⟨w.heap.size, 3, none⟩ = some (.int .i64 y1) := fun w' h => h.c (by exact a7)
                  have o0 : OldOf W0.drew W0.drew := OldOf.refl _
                  clear a0 a1 a2 a3 a4 a5 a6 a7
                  go_region_held3 (fun w' => OldOf W0.drew w') (first | assumption | exact o2) ((first | ((with_reducible refine (KPc.out _).mono ?_); rintro e w3 ⟨rfl, hb2⟩; have o2 := OldOf.below (by assumption) hb2) | ((with_reducible refine (KQc.out _).mono ?_); rintro e w3 ⟨rfl, hb2⟩; have o2 := OldOf.below (by assumption) hb2)))
                  have IW2 := Lib.hid (IW0.out.below o2.undrew); have NX2 := Lib.hid (NX0.out.below o2.undrew)
                  have hz3 : W0.heap.size ≤ w3.heap.size := o2.undrew.size
                  clear T0 T1 T2 T3 T4 T5 T6 T7 o0
                  try clear o2
                  obtain ⟨a0, a1, a2, a3, a4, a5, a6, a7⟩ := IW2.out.cells
                  go_wp2_with fail
                  refine (KQc.out _).mono ?_
                  rintro e w7 ⟨rfl, hb3⟩
                  have IW7 := Lib.hid (IW2.out.below hb3); have NX7 := Lib.hid (NX2.out.below hb3); clear hb3 a0 a1 a2 a3 a4 a5 a6 a7
                  obtain ⟨a0, a1, a2, a3, a4, a5, a6, a7⟩ := IW7.out.cells
                  go_wp2_with fail
                  refine ⟨⟨k + 1, by omega, by go_num, ?_⟩, by simp [intOf]; omega⟩
                  refine Lib.hid ?_; rw [STEP.out, STP.out]
                  rw [List.append_nil]; exact NX7.out
                · skip
                  have HKP := Lib.hid hkp; have HKQ := Lib.hid hkq
                  rw [hkp] at KPc; rw [hkq] at KQc
                  have STP : Hid (Cl.stepP ⟨x0, y0, x1, y1⟩ j (px, py) (qx, qy) = [ac, (qx, qy)]) := Lib.hid (by rw [stepP_ft hkp hkq, HAC.out])
                  have ACd := Lib.hid (fun u => ACc.out u (by rw [hkp, hkq]; decide))
                  clear hkp hkq
                  obtain ⟨a0, a1, a2, a3, a4, a5, a6, a7⟩ := IW0.out.cells
                  have T0 : ∀ w', OldOf W0.drew w' → w'.cell? ⟨wr.heap.size, 0, none⟩ = some (.int .i64 qx) := fun w' h => h.c (by exact a0)
                  have T1 : ∀ w', OldOf W0.drew w' → w'.cell? ⟨wr.heap.size, 1, none⟩ = some (.int .i64 qy) := fun w' h => h.c (by exact a1)
                  have T2 : ∀ w', OldOf W0.drew w' → w'.cell? ⟨wr.heap.size + 1, 0, none⟩ = some (.int .i64 px) := fun w' h => h.c (by exact a2)
                  have T3 : ∀ w', OldOf W0.drew w' → w'.cell? ⟨wr.heap.size + 1, 1, none⟩ = some (.int .i64 py) := fun w' h => h.c (by exact a3)
                  have T4 : ∀ w', OldOf W0.drew w' → w'.cell? ⟨w.heap.size, 0, none⟩ = some (.int .i64 x0) := fun w' h => h.c (by exact a4)
                  have T5 : ∀ w', OldOf W0.drew w' → w'.cell? ⟨w.heap.size, 1, none⟩ = some (.int .i64 y0) := fun w' h => h.c (by exact a5)
                  have T6 : ∀ w', OldOf W0.drew w' → w'.cell? ⟨w.heap.size, 2, none⟩ = some (.int .i64 x1) := fun w' h => h.c (by exact a6)
                  have T7 : ∀ w', OldOf W0.drew w' → w'.cell? ⟨w.heap.size, 3, none⟩ = some (.int .i64 y1) := fun w' h => h.c (by exact a7)
                  have o0 : OldOf W0.drew W0.drew := OldOf.refl _
                  clear a0 a1 a2 a3 a4 a5 a6 a7
                  go_region_held3 (fun w' => OldOf W0.drew w') (first | assumption | exact o2) ((first | ((with_reducible refine (KPc.out _).mono ?_); rintro e w3 ⟨rfl, hb2⟩; have o2 := OldOf.below (by assumption) hb2) | ((with_reducible refine (KQc.out _).mono ?_); rintro e w3 ⟨rfl, hb2⟩; have o2 := OldOf.below (by assumption) hb2)))
                  have IW2 := Lib.hid (IW0.out.below o2.undrew); have NX2 := Lib.hid (NX0.out.below o2.undrew)
                  have hz3 : W0.heap.size ≤ w3.heap.size := o2.undrew.size
                  clear T0 T1 T2 T3 T4 T5 T6 T7 o0
                  try clear o2
                  obtain ⟨a0, a1, a2, a3, a4, a5, a6, a7⟩ := IW2.out.cells
                  go_wp2_with fail
                  refine (ACd.out _).mono ?_
                  rintro e w4 ⟨rfl, hb3⟩
                  have IW4 := Lib.hid (IW2.out.below hb3); have NX4 := Lib.hid (NX2.out.below hb3); clear hb3 a0 a1 a2 a3 a4 a5 a6 a7
                  obtain ⟨a0, a1, a2, a3, a4, a5, a6, a7⟩ := IW4.out.cells
                  go_wp2_with (at_builtin; refine wpList_app1G rfl (.tmp 52) (.tmp 58) 22 rfl Try.underlying22 info_pt rfl (by decide) wx.heap.size _ _ _ _ _ rfl (by simp [Value.oneCell']) rfl rfl (by simp) (by exact NX4.out.own) (by have := NX4.out.bel.size; exact this) (by first | omega | (simp only [List.length_append, List.length_singleton]; omega)) (by first | omega | (simp only [List.length_append, List.length_singleton]; omega)) ?_; intro v5 w5 hown5 hb5 hg5; obtain ⟨A5, c5, rfl, -, -⟩ := own_form hown5; have IW6 := Lib.hid (IV.grown (base := wx.heap.size) (lo := wr.heap.size) IW4.out hg5 (RW.out) hzx (Nat.le_refl _) (Nat.le_succ _)); have NX6 := Lib.hid (NX4.out.more (x := ac) hown5 hb5); obtain ⟨a0, a1, a2, a3, a4, a5, a6, a7⟩ := IW6.out.cells; clear hown5 hb5 hg5)
                  all_goals skip
                  refine (KQc.out _).mono ?_
                  rintro e w7 ⟨rfl, hb3⟩
                  have IW7 := Lib.hid (IW6.out.below hb3); have NX7 := Lib.hid (NX6.out.below hb3); clear hb3 a0 a1 a2 a3 a4 a5 a6 a7
                  obtain ⟨a0, a1, a2, a3, a4, a5, a6, a7⟩ := IW7.out.cells
                  go_wp2_with (at_builtin; refine wpList_app1G rfl (.tmp 64) (.tmp 66) 22 rfl Try.underlying22 info_pt rfl (by decide) wx.heap.size _ _ _ _ _ rfl (by simp [Value.oneCell']) rfl rfl (by simp) (by exact NX7.out.own) (by have := NX7.out.bel.size; exact this) (by first | omega | (simp only [List.length_append, List.length_singleton]; omega)) (by first | omega | (simp only [List.length_append, List.length_singleton]; omega)) ?_; intro v5 w5 hown5 hb5 hg5; obtain ⟨A5, c5, rfl, -, -⟩ := own_form hown5; have NX8 := Lib.hid (NX7.out.more (x := (qx, qy)) hown5 hb5); clear hown5 hb5 hg5)
                  refine ⟨⟨k + 1, by omega, by go_num, ?_⟩, by simp [intOf]; omega⟩
                  refine Lib.hid ?_; rw [STEP.out, STP.out]
                  have := NX8.out; rw [List.append_assoc] at this; simpa using this
              · rcases hkq : Cl.kept ⟨x0, y0, x1, y1⟩ j (qx, qy) with _ | _
                · skip
                  have HKP := Lib.hid hkp; have HKQ := Lib.hid hkq
                  rw [hkp] at KPc; rw [hkq] at KQc
                  have STP : Hid (Cl.stepP ⟨x0, y0, x1, y1⟩ j (px, py) (qx, qy) = [ac]) := Lib.hid (by rw [stepP_tf hkp hkq, HAC.out])
                  have ACd := Lib.hid (fun u => ACc.out u (by rw [hkp, hkq]; decide))
                  clear hkp hkq
                  obtain ⟨a0, a1, a2, a3, a4, a5, a6, a7⟩ := IW0.out.cells
                  have T0 : ∀ w', OldOf W0.drew w' → w'.cell? ⟨wr.heap.size, 0, none⟩ = some (.int .i64 qx) := fun w' h => h.c (by exact a0)
                  have T1 : ∀ w', OldOf W0.drew w' → w'.cell? ⟨wr.heap.size, 1, none⟩ = some (.int .i64 qy) := fun w' h => h.c (by exact a1)
                  have T2 : ∀ w', OldOf W0.drew w' → w'.cell? ⟨wr.heap.size + 1, 0, none⟩ = some (.int .i64 px) := fun w' h => h.c (by exact a2)
                  have T3 : ∀ w', OldOf W0.drew w' → w'.cell? ⟨wr.heap.size + 1, 1, none⟩ = some (.int .i64 py) := fun w' h => h.c (by exact a3)
                  have T4 : ∀ w', OldOf W0.drew w' → w'.cell? ⟨w.heap.size, 0, none⟩ = some (.int .i64 x0) := fun w' h => h.c (by exact a4)
                  have T5 : ∀ w', OldOf W0.drew w' → w'.cell? ⟨w.heap.size, 1, none⟩ = some (.int .i64 y0) := fun w' h => h.c (by exact a5)
                  have T6 : ∀ w', OldOf W0.drew w' → w'.cell? ⟨w.heap.size, 2, none⟩ = some (.int .i64 x1) := fun w' h => h.c (by exact a6)
                  have T7 : ∀ w', OldOf W0.drew w' → w'.cell? ⟨w.heap.size, 3, none⟩ = some (.int .i64 y1) := fun w' h => h.c (by exact a7)
                  have o0 : OldOf W0.drew W0.drew := OldOf.refl _
                  clear a0 a1 a2 a3 a4 a5 a6 a7
                  go_region_held3 (fun w' => OldOf W0.drew w') (first | assumption | exact o2) ((first | ((with_reducible refine (KPc.out _).mono ?_); rintro e w3 ⟨rfl, hb2⟩; have o2 := OldOf.below (by assumption) hb2) | ((with_reducible refine (KQc.out _).mono ?_); rintro e w3 ⟨rfl, hb2⟩; have o2 := OldOf.below (by assumption) hb2)))
                  have IW2 := Lib.hid (IW0.out.below o2.undrew); have NX2 := Lib.hid (NX0.out.below o2.undrew)
                  have hz3 : W0.heap.size ≤ w3.heap.size := o2.undrew.size
                  clear T0 T1 T2 T3 T4 T5 T6 T7 o0
                  try clear o2
                  obtain ⟨a0, a1, a2, a3, a4, a5, a6, a7⟩ := IW2.out.cells
                  go_wp2_with fail
                  refine (ACd.out _).mono ?_
                  rintro e w4 ⟨rfl, hb3⟩
                  have IW4 := Lib.hid (IW2.out.below hb3); have NX4 := Lib.hid (NX2.out.below hb3); clear hb3 a0 a1 a2 a3 a4 a5 a6 a7
                  obtain ⟨a0, a1, a2, a3, a4, a5, a6, a7⟩ := IW4.out.cells
                  go_wp2_with (at_builtin; refine wpList_app1G rfl (.tmp 52) (.tmp 58) 22 rfl Try.underlying22 info_pt rfl (by decide) wx.heap.size _ _ _ _ _ rfl (by simp [Value.oneCell']) rfl rfl (by simp) (by exact NX4.out.own) (by have := NX4.out.bel.size; exact this) (by first | omega | (simp only [List.length_append, List.length_singleton]; omega)) (by first | omega | (simp only [List.length_append, List.length_singleton]; omega)) ?_; intro v5 w5 hown5 hb5 hg5; obtain ⟨A5, c5, rfl, -, -⟩ := own_form hown5; have IW6 := Lib.hid (IV.grown (base := wx.heap.size) (lo := wr.heap.size) IW4.out hg5 (RW.out) hzx (Nat.le_refl _) (Nat.le_succ _)); have NX6 := Lib.hid (NX4.out.more (x := ac) hown5 hb5); obtain ⟨a0, a1, a2, a3, a4, a5, a6, a7⟩ := IW6.out.cells; clear hown5 hb5 hg5)
                  all_goals skip
                  refine (KQc.out _).mono ?_
                  rintro e w7 ⟨rfl, hb3⟩
                  have IW7 := Lib.hid (IW6.out.below hb3); have NX7 := Lib.hid (NX6.out.below hb3); clear hb3 a0 a1 a2 a3 a4 a5 a6 a7
                  obtain ⟨a0, a1, a2, a3, a4, a5, a6, a7⟩ := IW7.out.cells
                  go_wp2_with fail
                  refine ⟨⟨k + 1, by omega, by go_num, ?_⟩, by simp [intOf]; omega⟩
                  refine Lib.hid ?_; rw [STEP.out, STP.out]
                  exact NX7.out
                · skip
                  have HKP := Lib.hid hkp; have HKQ := Lib.hid hkq
                  rw [hkp] at KPc; rw [hkq] at KQc
                  have STP : Hid (Cl.stepP ⟨x0, y0, x1, y1⟩ j (px, py) (qx, qy) = [(qx, qy)]) := Lib.hid (by rw [stepP_tt hkp hkq])
                  clear hkp hkq
                  obtain ⟨a0, a1, a2, a3, a4, a5, a6, a7⟩ := IW0.out.cells
                  have T0 : ∀ w', OldOf W0.drew w' → w'.cell? ⟨wr.heap.size, 0, none⟩ = some (.int .i64 qx) := fun w' h => h.c (by exact a0)
                  have T1 : ∀ w', OldOf W0.drew w' → w'.cell? ⟨wr.heap.size, 1, none⟩ = some (.int .i64 qy) := fun w' h => h.c (by exact a1)
                  have T2 : ∀ w', OldOf W0.drew w' → w'.cell? ⟨wr.heap.size + 1, 0, none⟩ = some (.int .i64 px) := fun w' h => h.c (by exact a2)
                  have T3 : ∀ w', OldOf W0.drew w' → w'.cell? ⟨wr.heap.size + 1, 1, none⟩ = some (.int .i64 py) := fun w' h => h.c (by exact a3)
                  have T4 : ∀ w', OldOf W0.drew w' → w'.cell? ⟨w.heap.size, 0, none⟩ = some (.int .i64 x0) := fun w' h => h.c (by exact a4)
                  have T5 : ∀ w', OldOf W0.drew w' → w'.cell? ⟨w.heap.size, 1, none⟩ = some (.int .i64 y0) := fun w' h => h.c (by exact a5)
                  have T6 : ∀ w', OldOf W0.drew w' → w'.cell? ⟨w.heap.size, 2, none⟩ = some (.int .i64 x1) := fun w' h => h.c (by exact a6)
                  have T7 : ∀ w', OldOf W0.drew w' → w'.cell? ⟨w.heap.size, 3, none⟩ = some (.int .i64 y1) := fun w' h => h.c (by exact a7)
                  have o0 : OldOf W0.drew W0.drew := OldOf.refl _
                  clear a0 a1 a2 a3 a4 a5 a6 a7
                  go_region_held3 (fun w' => OldOf W0.drew w') (first | assumption | exact o2) ((first | ((with_reducible refine (KPc.out _).mono ?_); rintro e w3 ⟨rfl, hb2⟩; have o2 := OldOf.below (by assumption) hb2) | ((with_reducible refine (KQc.out _).mono ?_); rintro e w3 ⟨rfl, hb2⟩; have o2 := OldOf.below (by assumption) hb2)))
                  have IW2 := Lib.hid (IW0.out.below o2.undrew); have NX2 := Lib.hid (NX0.out.below o2.undrew)
                  have hz3 : W0.heap.size ≤ w3.heap.size := o2.undrew.size
                  clear T0 T1 T2 T3 T4 T5 T6 T7 o0
                  try clear o2
                  obtain ⟨a0, a1, a2, a3, a4, a5, a6, a7⟩ := IW2.out.cells
                  go_wp2_with fail
                  refine (KQc.out _).mono ?_
                  rintro e w7 ⟨rfl, hb3⟩
                  have IW7 := Lib.hid (IW2.out.below hb3); have NX7 := Lib.hid (NX2.out.below hb3); clear hb3 a0 a1 a2 a3 a4 a5 a6 a7
                  obtain ⟨a0, a1, a2, a3, a4, a5, a6, a7⟩ := IW7.out.cells
                  go_wp2_with (at_builtin; refine wpList_app1G rfl (.tmp 64) (.tmp 66) 22 rfl Try.underlying22 info_pt rfl (by decide) wx.heap.size _ _ _ _ _ rfl (by simp [Value.oneCell']) rfl rfl (by simp) (by exact NX7.out.own) (by have := NX7.out.bel.size; exact this) (by first | omega | (simp only [List.length_append, List.length_singleton]; omega)) (by first | omega | (simp only [List.length_append, List.length_singleton]; omega)) ?_; intro v5 w5 hown5 hb5 hg5; obtain ⟨A5, c5, rfl, -, -⟩ := own_form hown5; have NX8 := Lib.hid (NX7.out.more (x := (qx, qy)) hown5 hb5); clear hown5 hb5 hg5)
                  refine ⟨⟨k + 1, by omega, by go_num, ?_⟩, by simp [intOf]; omega⟩
                  refine Lib.hid ?_; rw [STEP.out, STP.out]
                  exact NX8.out
            · have hkm' : k = m := by omega
              subst hkm'
              have NXT : Hid (stepsF ⟨x0, y0, x1, y1⟩ l (j + 1) = ringI ⟨x0, y0, x1, y1⟩ j L k) := Lib.hid (by
                rw [ringI_all _ _ _ (by have := hm.out; omega), HLs.out]; rfl)
              have A9 : Hid (Rp wr A8 (ringI ⟨x0, y0, x1, y1⟩ j L k)) := Lib.hid (rp_own hnx.out.own)
              have B9 : Hid (Below w2.heap.size w2 wr) := Lib.hid (hB.out.trans (hnx.out.bel.mono hB.out.size))
              generalize ringI ⟨x0, y0, x1, y1⟩ j L k = G at *
              go_wp2_with fail
              refine ⟨⟨j + 1, G.length, c8, A8, by omega, by go_num, rfl, Lib.hid (by rw [NXT.out]), Lib.hid (by rw [NXT.out]; exact A9.out), B9⟩, by simp [intOf]; omega⟩
        · have hj4 : j = 4 := by omega
          subst hj4
          generalize hR : stepsF ⟨x0, y0, x1, y1⟩ l 4 = R at *
          have RL : R.length ≤ 64000 := by
            have h1 := steps_len ⟨x0, y0, x1, y1⟩ l 4
            rw [hR, ← HN.out] at h1; omega
          clear hR
          have AR := Lib.hid (around_any AA m cc R wr hm.out (by have := hm.out; omega) hA.out)
          have BR := Lib.hid (bq.out.trans (hB.out.mono bq.out.size))
          clear hm hA hB
          go_wp2_with fail
          refine AR.out.mono ?_
          rintro e w9 ⟨A9, c9, rfl, rp9, hc9, hb9⟩
          have HC9 := Lib.hid hc9; have RP9 := Lib.hid rp9; have B9 := Lib.hid (BR.out.trans (hb9.mono BR.out.size)); clear hc9 rp9 hb9
          go_wp2_with fail
          go_ret
          exact ⟨A9, c9, by rw [HQ.out]; rfl, by rw [HQ.out]; exact RP9.out, by rw [HQ.out]; exact HC9.out, B9.out⟩
end Go.Proofs.Ytdiknijbjmhacaa
