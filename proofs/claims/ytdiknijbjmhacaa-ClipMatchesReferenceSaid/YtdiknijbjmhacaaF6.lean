/- WALKS: clip.Ring. -/
import Derived.Test.YtdiknijbjmhacaaF5
import Derived.Laws.EntriesVeiled
set_option linter.unusedSimpArgs false
set_option linter.unusedVariables false
namespace Go.Proofs.Ytdiknijbjmhacaa
open Go.RowKit
attribute [local go_sem ↓] Go.wp_at_zero Go.wp_at_succ

theorem ringNo_any (A : Option Addr) (n c : Nat) (l : List Cl.Pt) (x0 y0 x1 y1 : Int) (w : World) (hn : n = l.length) (hl : n ≤ 4000) (h : Rp w A l) (hw : Wf l) (hb : Wf [(x0, y0), (x1, y1)]) (hp : Cl.properB l ⟨x0, y0, x1, y1⟩ = false) :
    Calls Try.prog 15 #[.slice A n c, .agg #[.int .i64 x0, .int .i64 y0, .int .i64 x1, .int .i64 y1]] w (RingPost w (clipR l ⟨x0, y0, x1, y1⟩)) := by
  have PC : Hid (∀ w, Rp w A l → Calls Try.prog 26 #[.slice A n c, .agg #[.int .i64 x0, .int .i64 y0, .int .i64 x1, .int .i64 y1]] w fun e w' => e = .returned (.bool false) ∧ Below w.heap.size w w') := Lib.hid (fun w h => by have := proper_any A n c l x0 y0 x1 y1 w hn (by omega) h hw hb; rwa [hp] at this)
  have B0 : Hid (Below w.heap.size w (w.alloc (.cells #[.int .i64 x0, .int .i64 y0, .int .i64 x1, .int .i64 y1] 26))) := (Below.refl _ _).alloc (Nat.le_refl _) _
  have H := Lib.hid h; clear h hw hb hn
  have HP : Hid (clipR l ⟨x0, y0, x1, y1⟩ = []) := Lib.hid (by unfold clipR; rw [hp]; rfl)
  clear hp
  go_enter Try.func15, Try.ntmps15
  go_wp2_with fail
  refine (PC.out _ (H.out.below B0.out)).mono ?_
  rintro e w1 ⟨rfl, hb1⟩
  have b1 := Lib.hid hb1; clear hb1
  go_wp2
  go_ret
  refine ⟨none, 0, by rw [HP.out]; rfl, ?_, by rw [HP.out]; simp, by simp [maxLen], B0.out.trans (b1.out.mono B0.out.size)⟩
  rw [HP.out]; exact Rd.nil_ _ _

set_option maxHeartbeats 40000000 in
theorem ringYes_any (A : Option Addr) (n c : Nat) (l : List Cl.Pt) (x0 y0 x1 y1 : Int) (w : World) (hn : n = l.length) (hl : n ≤ 4000) (h : Rp w A l) (hw : Wf l) (hb : Wf [(x0, y0), (x1, y1)]) (hp : Cl.properB l ⟨x0, y0, x1, y1⟩ = true) :
    Calls Try.prog 15 #[.slice A n c, .agg #[.int .i64 x0, .int .i64 y0, .int .i64 x1, .int .i64 y1]] w (RingPost w (clipR l ⟨x0, y0, x1, y1⟩)) := by
  have PC : Hid (∀ w, Rp w A l → Calls Try.prog 26 #[.slice A n c, .agg #[.int .i64 x0, .int .i64 y0, .int .i64 x1, .int .i64 y1]] w fun e w' => e = .returned (.bool true) ∧ Below w.heap.size w w') := Lib.hid (fun w h => by have := proper_any A n c l x0 y0 x1 y1 w hn (by omega) h hw hb; rwa [hp] at this)
  have B0 : Hid (Below w.heap.size w (w.alloc (.cells #[.int .i64 x0, .int .i64 y0, .int .i64 x1, .int .i64 y1] 26))) := (Below.refl _ _).alloc (Nat.le_refl _) _
  have X0 : Hid (BoxAt (w.alloc (.cells #[.int .i64 x0, .int .i64 y0, .int .i64 x1, .int .i64 y1] 26)) w.heap.size ⟨x0, y0, x1, y1⟩) := Lib.hid (heap_alloc_new w _)
  have H := Lib.hid h; clear h hb
  have HP : Hid (clipR l ⟨x0, y0, x1, y1⟩ = Cl.aroundF (stepsF ⟨x0, y0, x1, y1⟩ l 4)) := Lib.hid (by unfold clipR; rw [hp]; rfl)
  have hbx : Cl.boxB ⟨x0, y0, x1, y1⟩ = true := by unfold Cl.properB at hp; rw [Bool.and_eq_true] at hp; exact hp.1
  have HNR : Hid (Near l) := Lib.hid (by unfold Cl.properB at hp; rw [Bool.and_eq_true, List.all_eq_true] at hp; exact fun p hx => hp.2 p hx)
  have HN := Lib.hid hn
  have HBX := Lib.hid hbx
  obtain ⟨⟨⟨b1, b2⟩, b3, b4⟩, ⟨⟨b5, b6⟩, b7, b8⟩, -, -⟩ := Cl.box_iff.1 hbx
  simp only at b1 b2 b3 b4 b5 b6 b7 b8
  clear hp hw hn hbx
  go_enter Try.func15, Try.ntmps15
  go_wp2_with fail
  refine (PC.out _ (H.out.below B0.out)).mono ?_
  rintro e w1 ⟨rfl, hb1⟩
  have X1 := Lib.hid (X0.out.below hb1 (by simp))
  have bw1 := Lib.hid (B0.out.trans (hb1.mono B0.out.size)); clear hb1 B0 X0 PC
  have hlt1 : w.heap.size < w1.heap.size := lt_of_block X1.out
  have X1c := X1.out.c
  obtain ⟨k0, k1, k2, k3⟩ := X1c
  simp only at k0 k1 k2 k3
  go_wp2_with fail
  clear k0 k1 k2 k3 b1 b2 b3 b4 b5 b6 b7 b8
  have bq : Hid (Below w.heap.size w (w1.alloc (.cells #[.func (.func 32) #[] #[], .int .i64 (-x0), .func (.func 33) #[] #[], .int .i64 x1, .func (.func 34) #[] #[], .int .i64 (-y0), .func (.func 35) #[] #[], .int .i64 y1] 47))) := Lib.hid (bw1.out.trans ((Below.refl _ _).alloc (by omega) _))
  clear hlt1 X1 bw1
  go_loopw [0, 36] (fun r i wr => ∃ (j m cc : Nat) (AA : Option Addr), j ≤ 4 ∧ i = .int .i64 j ∧ r = .slice AA m cc ∧ Hid (m = (stepsF ⟨x0, y0, x1, y1⟩ l j).length) ∧ Hid (Rp wr AA (stepsF ⟨x0, y0, x1, y1⟩ l j)) ∧ Hid (Below w.heap.size w wr)) (fun _ i _ => 4 - (intOf i).toNat)
  case atStart => exact ⟨0, n, c, A, by omega, rfl, rfl, HN, Lib.hid (H.out.below bq.out), bq⟩
  case round =>
    obtain ⟨j, m, cc, AA, hj, rfl, rfl, hm, hA, hB⟩ := hrel
    clear bq
    by_cases hlt : j < 4
    · go_upto_region 6 with fail
      go_cut [7] (fun s7 wx => ∃ p7 : Nat, s7 = .pointer (some ⟨p7, 0, none⟩) ∧ wx.heap[p7]? = some (.cells #[.func (.func (cutFn j)) #[] #[], .int .i64 (cutLim ⟨x0, y0, x1, y1⟩ j)] 46 (0, 0)) ∧ Hid (Below wr.heap.size wr wx))
      case first =>
        have h4 : j = 0 ∨ j = 1 ∨ j = 2 ∨ j = 3 := by omega
        rcases h4 with h4 | h4 | h4 | h4
        · have hix : ∀ u : World, (Instr.index 47 (.agg #[.func (.func 32) #[] #[], .int .i64 (-x0), .func (.func 33) #[] #[], .int .i64 x1, .func (.func 34) #[] #[], .int .i64 (-y0), .func (.func 35) #[] #[], .int .i64 y1]) (.int .i64 (j : Int))).run Try.prog u = .ok (.agg #[.func (.func 32) #[] #[], .int .i64 (-x0)]) u := fun u => by subst h4; kernel_rfl
          have H4 := Lib.hid h4; clear h4
          go_wp2_with fail
          go_meet
          exact ⟨_, rfl, by have h4 := H4.out; subst h4; exact alloc_new' _ _ _ rfl, Lib.hid ((Below.refl _ _).alloc (Nat.le_refl _) _)⟩
        · have hix : ∀ u : World, (Instr.index 47 (.agg #[.func (.func 32) #[] #[], .int .i64 (-x0), .func (.func 33) #[] #[], .int .i64 x1, .func (.func 34) #[] #[], .int .i64 (-y0), .func (.func 35) #[] #[], .int .i64 y1]) (.int .i64 (j : Int))).run Try.prog u = .ok (.agg #[.func (.func 33) #[] #[], .int .i64 x1]) u := fun u => by subst h4; kernel_rfl
          have H4 := Lib.hid h4; clear h4
          go_wp2_with fail
          go_meet
          exact ⟨_, rfl, by have h4 := H4.out; subst h4; exact alloc_new' _ _ _ rfl, Lib.hid ((Below.refl _ _).alloc (Nat.le_refl _) _)⟩
        · have hix : ∀ u : World, (Instr.index 47 (.agg #[.func (.func 32) #[] #[], .int .i64 (-x0), .func (.func 33) #[] #[], .int .i64 x1, .func (.func 34) #[] #[], .int .i64 (-y0), .func (.func 35) #[] #[], .int .i64 y1]) (.int .i64 (j : Int))).run Try.prog u = .ok (.agg #[.func (.func 34) #[] #[], .int .i64 (-y0)]) u := fun u => by subst h4; kernel_rfl
          have H4 := Lib.hid h4; clear h4
          go_wp2_with fail
          go_meet
          exact ⟨_, rfl, by have h4 := H4.out; subst h4; exact alloc_new' _ _ _ rfl, Lib.hid ((Below.refl _ _).alloc (Nat.le_refl _) _)⟩
        · have hix : ∀ u : World, (Instr.index 47 (.agg #[.func (.func 32) #[] #[], .int .i64 (-x0), .func (.func 33) #[] #[], .int .i64 x1, .func (.func 34) #[] #[], .int .i64 (-y0), .func (.func 35) #[] #[], .int .i64 y1]) (.int .i64 (j : Int))).run Try.prog u = .ok (.agg #[.func (.func 35) #[] #[], .int .i64 y1]) u := fun u => by subst h4; kernel_rfl
          have H4 := Lib.hid h4; clear h4
          go_wp2_with fail
          go_meet
          exact ⟨_, rfl, by have h4 := H4.out; subst h4; exact alloc_new' _ _ _ rfl, Lib.hid ((Below.refl _ _).alloc (Nat.le_refl _) _)⟩
      case rest =>
        obtain ⟨p7, rfl, f7, hbx⟩ := hcut
        obtain ⟨wx, hwx⟩ : ∃ wx, wx = wc := ⟨_, rfl⟩; rw [← hwx] at f7 hbx ⊢; clear hwx wc
        have F7 := Lib.hid f7; clear f7
        go_wp2_with fail
        obtain ⟨L, hL⟩ : ∃ L, L = stepsF ⟨x0, y0, x1, y1⟩ l j := ⟨_, rfl⟩
        rw [← hL] at hm hA
        have NL : Hid (Near L) := Lib.hid (by rw [hL]; exact steps_near HNR.out j)
        have hLl : m ≤ 32000 := by
          have h1 := steps_len ⟨x0, y0, x1, y1⟩ l j
          rw [← hL, ← hm.out, ← HN.out] at h1
          have h2 : 2 ^ j ≤ 8 := by have h4 : j = 0 ∨ j = 1 ∨ j = 2 ∨ j = 3 := by omega
                                    rcases h4 with rfl | rfl | rfl | rfl <;> decide
          have h3 : 2 ^ j * n ≤ 8 * 4000 := Nat.mul_le_mul h2 hl
          omega
        have HLs := Lib.hid hL; clear hL
        have hlt7 : p7 < wx.heap.size := lt_of_block F7.out
        have AX : Hid (Rp wx AA L) := Lib.hid (hA.out.below hbx.out)
        have BX : Hid (Below w.heap.size w wx) := Lib.hid (hB.out.trans (hbx.out.mono hB.out.size))
        clear hA hB hbx
        go_loopw [8, 41] (fun nv i wi => ∃ k : Nat, k ≤ m ∧ i = .int .i64 k ∧ Hid (NX wx wi nv (ringI ⟨x0, y0, x1, y1⟩ j L k))) (fun _ i _ => m - (intOf i).toNat)
        case atStart => exact ⟨0, by omega, rfl, Lib.hid ⟨World.ownsRow_nil _ _ _ _, Below.refl _ _⟩⟩
        case round =>
          obtain ⟨k, hk, rfl, hnx⟩ := hrel
          obtain ⟨A8, c8, rfl, -, -⟩ := own_form hnx.out.own
          by_cases hkm : k < m
          · have hkl : k < L.length := by have := hm.out; omega
            obtain ⟨pi, hpi⟩ : ∃ pi, pi = prevI m k := ⟨_, rfl⟩
            have hpl : pi < L.length := by rw [hpi, hm.out]; exact prevI_lt hkl
            have hmod : ((k : Int) + (m : Int) - 1) % (m : Int) = (pi : Int) := by rw [hpi]; exact prevI_mod hkm
            have EP : Hid (prevP L k = L[pi]) := Lib.hid (by
              have := prevI_at hkl
              rw [← this]; congr 1; rw [hpi, hm.out])
            obtain ⟨b, off, rfl, hb, c0, c1⟩ := (AX.out.below hnx.out.bel).at_ hkl
            obtain ⟨b', off', e', hb', d0, d1⟩ := (AX.out.below hnx.out.bel).at_ hpl
            cases e'
            obtain ⟨qx, hqx⟩ : ∃ x, x = L[k].1 := ⟨_, rfl⟩
            obtain ⟨qy, hqy⟩ : ∃ y, y = L[k].2 := ⟨_, rfl⟩
            obtain ⟨px, hpx⟩ : ∃ x, x = L[pi].1 := ⟨_, rfl⟩
            obtain ⟨py, hpy⟩ : ∃ y, y = L[pi].2 := ⟨_, rfl⟩
            rw [← hqx] at c0; rw [← hqy] at c1; rw [← hpx] at d0; rw [← hpy] at d1
            have NQ := Lib.hid (NL.out _ (List.getElem_mem hkl)); have NP := Lib.hid (NL.out _ (List.getElem_mem hpl))
            rw [← hqx, ← hqy] at NQ; rw [← hpx, ← hpy] at NP
            have EQ : Hid ((qx, qy) = L[k]) := Lib.hid (by rw [hqx, hqy])
            have EP2 : Hid ((px, py) = prevP L k) := Lib.hid (by rw [EP.out, hpx, hpy])
            have STEP : Hid (ringI ⟨x0, y0, x1, y1⟩ j L (k + 1) = ringI ⟨x0, y0, x1, y1⟩ j L k ++ Cl.stepP ⟨x0, y0, x1, y1⟩ j (px, py) (qx, qy)) := Lib.hid (by rw [ringI_step _ _ hkl, EP2.out, EQ.out])
            have LEN : (ringI ⟨x0, y0, x1, y1⟩ j L k).length ≤ 64000 := by have := ringI_len ⟨x0, y0, x1, y1⟩ j L k (by omega); omega
            generalize ringI ⟨x0, y0, x1, y1⟩ j L k = G at *
            clear hqx hqy hpx hpy EP hpi
            have i1 : (0 : Int) ≤ (k : Int) + (m : Int) - 1 := by omega
            have i2 : (m : Int) ≠ 0 := by omega
            have i3 : (pi : Int) < (m : Int) := by have := hm.out; omega
            have i4 : pi < m := by have := hm.out; omega
            go_upto_region 12 with fail
            --IN
            obtain ⟨W0, hW⟩ : ∃ W0, W0 = (wr.alloc (.cells #[.int .i64 qx, .int .i64 qy] 24)).alloc (.cells #[.int .i64 px, .int .i64 py] 24) := ⟨_, rfl⟩
            have BW0 : Below wr.heap.size wr W0 := by rw [hW]; exact ((Below.refl _ _).alloc (Nat.le_refl _) _).alloc (by simp) _
            have IW0 : Hid (IW W0 p7 wr.heap.size (wr.heap.size + 1) (.func (.func (cutFn j)) #[] #[]) (cutLim ⟨x0, y0, x1, y1⟩ j) qx qy px py) := Lib.hid (by
              have hf : wr.heap[p7]? = _ := (hnx.out.bel.block p7 hlt7).trans F7.out
              refine ⟨(BW0.block _ (lt_of_block hf)).trans hf, ?_, ?_⟩
              · rw [hW]; exact (alloc_old _ _ (by simp)).trans (alloc_new' _ _ _ rfl)
              · rw [hW]; exact alloc_new' _ _ _ (by simp))
            have NX0 := Lib.hid (hnx.out.below BW0)
            have hxr : wx.heap.size ≤ wr.heap.size := hnx.out.bel.size
            have RW := Lib.hid hnx.out.rows
            have hzr : wr.heap.size + 1 < W0.heap.size := lt_of_block IW0.out.p
            rw [← hW]
            clear hW BW0 c0 c1 d0 d1 i1 i2 i3 i4 hmod hb hb'
            have KPc := Lib.hid (fun u => keeps_cut ⟨x0, y0, x1, y1⟩ j hlt px py u NP.out)
            have KQc := Lib.hid (fun u => keeps_cut ⟨x0, y0, x1, y1⟩ j hlt qx qy u NQ.out)
            have ACc := Lib.hid (fun u => across_cut ⟨x0, y0, x1, y1⟩ j hlt HBX.out px py qx qy u NP.out NQ.out)
            generalize hAC : Cl.acr ⟨x0, y0, x1, y1⟩ j (px, py) (qx, qy) = ac at ACc
            have HAC := Lib.hid hAC; clear hAC
            rcases hkp : Cl.kept ⟨x0, y0, x1, y1⟩ j (px, py) with _ | _
            · rcases hkq : Cl.kept ⟨x0, y0, x1, y1⟩ j (qx, qy) with _ | _
              · skip
                have HKP := Lib.hid hkp; have HKQ := Lib.hid hkq
                rw [hkp] at KPc; rw [hkq] at KQc
                have STP : Hid (Cl.stepP ⟨x0, y0, x1, y1⟩ j (px, py) (qx, qy) = []) := Lib.hid (by rw [stepP_ff hkp hkq])
                clear hkp hkq
                obtain ⟨a0, a1, a2, a3, a4, a5⟩ := IW0.out.cells
                have T0 : ∀ w', OldOf W0.drew w' → w'.cell? ⟨p7, 0, none⟩ = some (.func (.func (cutFn j)) #[] #[]) := fun w' h => h.c (by exact a0)
                have T1 : ∀ w', OldOf W0.drew w' → w'.cell? ⟨p7, 1, none⟩ = some (.int .i64 (cutLim ⟨x0, y0, x1, y1⟩ j)) := fun w' h => h.c (by exact a1)
                have T2 : ∀ w', OldOf W0.drew w' → w'.cell? ⟨wr.heap.size, 0, none⟩ = some (.int .i64 qx) := fun w' h => h.c (by exact a2)
                have T3 : ∀ w', OldOf W0.drew w' → w'.cell? ⟨wr.heap.size, 1, none⟩ = some (.int .i64 qy) := fun w' h => h.c (by exact a3)
                have T4 : ∀ w', OldOf W0.drew w' → w'.cell? ⟨wr.heap.size + 1, 0, none⟩ = some (.int .i64 px) := fun w' h => h.c (by exact a4)
                have T5 : ∀ w', OldOf W0.drew w' → w'.cell? ⟨wr.heap.size + 1, 1, none⟩ = some (.int .i64 py) := fun w' h => h.c (by exact a5)
                have o0 : OldOf W0.drew W0.drew := OldOf.refl _
                clear a0 a1 a2 a3 a4 a5
                go_region_held3 (fun w' => OldOf W0.drew w') (first | assumption | exact o2) ((first | ((with_reducible refine (KPc.out _).mono ?_); rintro e w2 ⟨rfl, hb2⟩; have o2 := OldOf.below (by assumption) hb2) | ((with_reducible refine (KQc.out _).mono ?_); rintro e w2 ⟨rfl, hb2⟩; have o2 := OldOf.below (by assumption) hb2)))
                have IW2 := Lib.hid (IW0.out.below o2.undrew); have NX2 := Lib.hid (NX0.out.below o2.undrew)
                have hz2 : W0.heap.size ≤ w2.heap.size := o2.undrew.size
                clear T0 T1 T2 T3 T4 T5 o0
                try clear o2
                obtain ⟨a0, a1, a2, a3, a4, a5⟩ := IW2.out.cells
                go_wp2_with fail
                refine (KQc.out _).mono ?_
                rintro e w6 ⟨rfl, hb3⟩
                have IW6 := Lib.hid (IW2.out.below hb3); have NX6 := Lib.hid (NX2.out.below hb3); clear hb3 a0 a1 a2 a3 a4 a5
                obtain ⟨a0, a1, a2, a3, a4, a5⟩ := IW6.out.cells
                go_wp2_with fail
                refine ⟨⟨k + 1, by omega, by go_num, ?_⟩, by simp [intOf]; omega⟩
                refine Lib.hid ?_; rw [STEP.out, STP.out]
                rw [List.append_nil]; exact NX6.out
              · skip
                have HKP := Lib.hid hkp; have HKQ := Lib.hid hkq
                rw [hkp] at KPc; rw [hkq] at KQc
                have STP : Hid (Cl.stepP ⟨x0, y0, x1, y1⟩ j (px, py) (qx, qy) = [ac, (qx, qy)]) := Lib.hid (by rw [stepP_ft hkp hkq, HAC.out])
                have ACd := Lib.hid (fun u => ACc.out u (by rw [hkp, hkq]; decide))
                clear hkp hkq
                obtain ⟨a0, a1, a2, a3, a4, a5⟩ := IW0.out.cells
                have T0 : ∀ w', OldOf W0.drew w' → w'.cell? ⟨p7, 0, none⟩ = some (.func (.func (cutFn j)) #[] #[]) := fun w' h => h.c (by exact a0)
                have T1 : ∀ w', OldOf W0.drew w' → w'.cell? ⟨p7, 1, none⟩ = some (.int .i64 (cutLim ⟨x0, y0, x1, y1⟩ j)) := fun w' h => h.c (by exact a1)
                have T2 : ∀ w', OldOf W0.drew w' → w'.cell? ⟨wr.heap.size, 0, none⟩ = some (.int .i64 qx) := fun w' h => h.c (by exact a2)
                have T3 : ∀ w', OldOf W0.drew w' → w'.cell? ⟨wr.heap.size, 1, none⟩ = some (.int .i64 qy) := fun w' h => h.c (by exact a3)
                have T4 : ∀ w', OldOf W0.drew w' → w'.cell? ⟨wr.heap.size + 1, 0, none⟩ = some (.int .i64 px) := fun w' h => h.c (by exact a4)
                have T5 : ∀ w', OldOf W0.drew w' → w'.cell? ⟨wr.heap.size + 1, 1, none⟩ = some (.int .i64 py) := fun w' h => h.c (by exact a5)
                have o0 : OldOf W0.drew W0.drew := OldOf.refl _
                clear a0 a1 a2 a3 a4 a5
                go_region_held3 (fun w' => OldOf W0.drew w') (first | assumption | exact o2) ((first | ((with_reducible refine (KPc.out _).mono ?_); rintro e w2 ⟨rfl, hb2⟩; have o2 := OldOf.below (by assumption) hb2) | ((with_reducible refine (KQc.out _).mono ?_); rintro e w2 ⟨rfl, hb2⟩; have o2 := OldOf.below (by assumption) hb2)))
                have IW2 := Lib.hid (IW0.out.below o2.undrew); have NX2 := Lib.hid (NX0.out.below o2.undrew)
                have hz2 : W0.heap.size ≤ w2.heap.size := o2.undrew.size
                clear T0 T1 T2 T3 T4 T5 o0
                try clear o2
                obtain ⟨a0, a1, a2, a3, a4, a5⟩ := IW2.out.cells
                go_wp2_with fail
                refine (ACd.out _).mono ?_
                rintro e w3 ⟨rfl, hb3⟩
                have IW3 := Lib.hid (IW2.out.below hb3); have NX3 := Lib.hid (NX2.out.below hb3); clear hb3 a0 a1 a2 a3 a4 a5
                obtain ⟨a0, a1, a2, a3, a4, a5⟩ := IW3.out.cells
                go_wp2_with (at_builtin; refine wpList_app1G rfl (.tmp 64) (.tmp 69) 22 rfl Try.underlying22 info_pt rfl (by decide) wx.heap.size _ _ _ _ _ rfl (by simp [Value.oneCell']) rfl rfl (by simp) (by exact NX3.out.own) (by have := NX3.out.bel.size; exact this) (by first | omega | (simp only [List.length_append, List.length_singleton]; omega)) (by first | omega | (simp only [List.length_append, List.length_singleton]; omega)) ?_; intro v5 w5 hown5 hb5 hg5; obtain ⟨A5, c5, rfl, -, -⟩ := own_form hown5; have IW4 := Lib.hid (IW.grown (base := wx.heap.size) (lo := wr.heap.size) IW3.out hg5 (RW.out) hlt7 (Nat.le_refl _) (Nat.le_succ _)); have NX4 := Lib.hid (NX3.out.more (x := ac) hown5 hb5); obtain ⟨a0, a1, a2, a3, a4, a5⟩ := IW4.out.cells; clear hown5 hb5 hg5)
                all_goals skip
                refine (KQc.out _).mono ?_
                rintro e w6 ⟨rfl, hb3⟩
                have IW6 := Lib.hid (IW4.out.below hb3); have NX6 := Lib.hid (NX4.out.below hb3); clear hb3 a0 a1 a2 a3 a4 a5
                obtain ⟨a0, a1, a2, a3, a4, a5⟩ := IW6.out.cells
                go_wp2_with (at_builtin; refine wpList_app1G rfl (.tmp 74) (.tmp 76) 22 rfl Try.underlying22 info_pt rfl (by decide) wx.heap.size _ _ _ _ _ rfl (by simp [Value.oneCell']) rfl rfl (by simp) (by exact NX6.out.own) (by have := NX6.out.bel.size; exact this) (by first | omega | (simp only [List.length_append, List.length_singleton]; omega)) (by first | omega | (simp only [List.length_append, List.length_singleton]; omega)) ?_; intro v5 w5 hown5 hb5 hg5; obtain ⟨A5, c5, rfl, -, -⟩ := own_form hown5; have NX7 := Lib.hid (NX6.out.more (x := (qx, qy)) hown5 hb5); clear hown5 hb5 hg5)
                refine ⟨⟨k + 1, by omega, by go_num, ?_⟩, by simp [intOf]; omega⟩
                refine Lib.hid ?_; rw [STEP.out, STP.out]
                have := NX7.out; rw [List.append_assoc] at this; simpa using this
            · rcases hkq : Cl.kept ⟨x0, y0, x1, y1⟩ j (qx, qy) with _ | _
              · skip
                have HKP := Lib.hid hkp; have HKQ := Lib.hid hkq
                rw [hkp] at KPc; rw [hkq] at KQc
                have STP : Hid (Cl.stepP ⟨x0, y0, x1, y1⟩ j (px, py) (qx, qy) = [ac]) := Lib.hid (by rw [stepP_tf hkp hkq, HAC.out])
                have ACd := Lib.hid (fun u => ACc.out u (by rw [hkp, hkq]; decide))
                clear hkp hkq
                obtain ⟨a0, a1, a2, a3, a4, a5⟩ := IW0.out.cells
                have T0 : ∀ w', OldOf W0.drew w' → w'.cell? ⟨p7, 0, none⟩ = some (.func (.func (cutFn j)) #[] #[]) := fun w' h => h.c (by exact a0)
                have T1 : ∀ w', OldOf W0.drew w' → w'.cell? ⟨p7, 1, none⟩ = some (.int .i64 (cutLim ⟨x0, y0, x1, y1⟩ j)) := fun w' h => h.c (by exact a1)
                have T2 : ∀ w', OldOf W0.drew w' → w'.cell? ⟨wr.heap.size, 0, none⟩ = some (.int .i64 qx) := fun w' h => h.c (by exact a2)
                have T3 : ∀ w', OldOf W0.drew w' → w'.cell? ⟨wr.heap.size, 1, none⟩ = some (.int .i64 qy) := fun w' h => h.c (by exact a3)
                have T4 : ∀ w', OldOf W0.drew w' → w'.cell? ⟨wr.heap.size + 1, 0, none⟩ = some (.int .i64 px) := fun w' h => h.c (by exact a4)
                have T5 : ∀ w', OldOf W0.drew w' → w'.cell? ⟨wr.heap.size + 1, 1, none⟩ = some (.int .i64 py) := fun w' h => h.c (by exact a5)
                have o0 : OldOf W0.drew W0.drew := OldOf.refl _
                clear a0 a1 a2 a3 a4 a5
                go_region_held3 (fun w' => OldOf W0.drew w') (first | assumption | exact o2) ((first | ((with_reducible refine (KPc.out _).mono ?_); rintro e w2 ⟨rfl, hb2⟩; have o2 := OldOf.below (by assumption) hb2) | ((with_reducible refine (KQc.out _).mono ?_); rintro e w2 ⟨rfl, hb2⟩; have o2 := OldOf.below (by assumption) hb2)))
                have IW2 := Lib.hid (IW0.out.below o2.undrew); have NX2 := Lib.hid (NX0.out.below o2.undrew)
                have hz2 : W0.heap.size ≤ w2.heap.size := o2.undrew.size
                clear T0 T1 T2 T3 T4 T5 o0
                try clear o2
                obtain ⟨a0, a1, a2, a3, a4, a5⟩ := IW2.out.cells
                go_wp2_with fail
                refine (ACd.out _).mono ?_
                rintro e w3 ⟨rfl, hb3⟩
                have IW3 := Lib.hid (IW2.out.below hb3); have NX3 := Lib.hid (NX2.out.below hb3); clear hb3 a0 a1 a2 a3 a4 a5
                obtain ⟨a0, a1, a2, a3, a4, a5⟩ := IW3.out.cells
                go_wp2_with (at_builtin; refine wpList_app1G rfl (.tmp 64) (.tmp 69) 22 rfl Try.underlying22 info_pt rfl (by decide) wx.heap.size _ _ _ _ _ rfl (by simp [Value.oneCell']) rfl rfl (by simp) (by exact NX3.out.own) (by have := NX3.out.bel.size; exact this) (by first | omega | (simp only [List.length_append, List.length_singleton]; omega)) (by first | omega | (simp only [List.length_append, List.length_singleton]; omega)) ?_; intro v5 w5 hown5 hb5 hg5; obtain ⟨A5, c5, rfl, -, -⟩ := own_form hown5; have IW4 := Lib.hid (IW.grown (base := wx.heap.size) (lo := wr.heap.size) IW3.out hg5 (RW.out) hlt7 (Nat.le_refl _) (Nat.le_succ _)); have NX4 := Lib.hid (NX3.out.more (x := ac) hown5 hb5); obtain ⟨a0, a1, a2, a3, a4, a5⟩ := IW4.out.cells; clear hown5 hb5 hg5)
                all_goals skip
                refine (KQc.out _).mono ?_
                rintro e w6 ⟨rfl, hb3⟩
                have IW6 := Lib.hid (IW4.out.below hb3); have NX6 := Lib.hid (NX4.out.below hb3); clear hb3 a0 a1 a2 a3 a4 a5
                obtain ⟨a0, a1, a2, a3, a4, a5⟩ := IW6.out.cells
                go_wp2_with fail
                refine ⟨⟨k + 1, by omega, by go_num, ?_⟩, by simp [intOf]; omega⟩
                refine Lib.hid ?_; rw [STEP.out, STP.out]
                exact NX6.out
              · skip
                have HKP := Lib.hid hkp; have HKQ := Lib.hid hkq
                rw [hkp] at KPc; rw [hkq] at KQc
                have STP : Hid (Cl.stepP ⟨x0, y0, x1, y1⟩ j (px, py) (qx, qy) = [(qx, qy)]) := Lib.hid (by rw [stepP_tt hkp hkq])
                clear hkp hkq
                obtain ⟨a0, a1, a2, a3, a4, a5⟩ := IW0.out.cells
                have T0 : ∀ w', OldOf W0.drew w' → w'.cell? ⟨p7, 0, none⟩ = some (.func (.func (cutFn j)) #[] #[]) := fun w' h => h.c (by exact a0)
                have T1 : ∀ w', OldOf W0.drew w' → w'.cell? ⟨p7, 1, none⟩ = some (.int .i64 (cutLim ⟨x0, y0, x1, y1⟩ j)) := fun w' h => h.c (by exact a1)
                have T2 : ∀ w', OldOf W0.drew w' → w'.cell? ⟨wr.heap.size, 0, none⟩ = some (.int .i64 qx) := fun w' h => h.c (by exact a2)
                have T3 : ∀ w', OldOf W0.drew w' → w'.cell? ⟨wr.heap.size, 1, none⟩ = some (.int .i64 qy) := fun w' h => h.c (by exact a3)
                have T4 : ∀ w', OldOf W0.drew w' → w'.cell? ⟨wr.heap.size + 1, 0, none⟩ = some (.int .i64 px) := fun w' h => h.c (by exact a4)
                have T5 : ∀ w', OldOf W0.drew w' → w'.cell? ⟨wr.heap.size + 1, 1, none⟩ = some (.int .i64 py) := fun w' h => h.c (by exact a5)
                have o0 : OldOf W0.drew W0.drew := OldOf.refl _
                clear a0 a1 a2 a3 a4 a5
                go_region_held3 (fun w' => OldOf W0.drew w') (first | assumption | exact o2) ((first | ((with_reducible refine (KPc.out _).mono ?_); rintro e w2 ⟨rfl, hb2⟩; have o2 := OldOf.below (by assumption) hb2) | ((with_reducible refine (KQc.out _).mono ?_); rintro e w2 ⟨rfl, hb2⟩; have o2 := OldOf.below (by assumption) hb2)))
                have IW2 := Lib.hid (IW0.out.below o2.undrew); have NX2 := Lib.hid (NX0.out.below o2.undrew)
                have hz2 : W0.heap.size ≤ w2.heap.size := o2.undrew.size
                clear T0 T1 T2 T3 T4 T5 o0
                try clear o2
                obtain ⟨a0, a1, a2, a3, a4, a5⟩ := IW2.out.cells
                go_wp2_with fail
                refine (KQc.out _).mono ?_
                rintro e w6 ⟨rfl, hb3⟩
                have IW6 := Lib.hid (IW2.out.below hb3); have NX6 := Lib.hid (NX2.out.below hb3); clear hb3 a0 a1 a2 a3 a4 a5
                obtain ⟨a0, a1, a2, a3, a4, a5⟩ := IW6.out.cells
                go_wp2_with (at_builtin; refine wpList_app1G rfl (.tmp 74) (.tmp 76) 22 rfl Try.underlying22 info_pt rfl (by decide) wx.heap.size _ _ _ _ _ rfl (by simp [Value.oneCell']) rfl rfl (by simp) (by exact NX6.out.own) (by have := NX6.out.bel.size; exact this) (by first | omega | (simp only [List.length_append, List.length_singleton]; omega)) (by first | omega | (simp only [List.length_append, List.length_singleton]; omega)) ?_; intro v5 w5 hown5 hb5 hg5; obtain ⟨A5, c5, rfl, -, -⟩ := own_form hown5; have NX7 := Lib.hid (NX6.out.more (x := (qx, qy)) hown5 hb5); clear hown5 hb5 hg5)
                refine ⟨⟨k + 1, by omega, by go_num, ?_⟩, by simp [intOf]; omega⟩
                refine Lib.hid ?_; rw [STEP.out, STP.out]
                exact NX7.out
            --OUT
          · have hkm' : k = m := by omega
            subst hkm'
            have NXT : Hid (stepsF ⟨x0, y0, x1, y1⟩ l (j + 1) = ringI ⟨x0, y0, x1, y1⟩ j L k) := Lib.hid (by
              rw [ringI_all _ _ _ (by have := hm.out; omega), HLs.out]; rfl)
            have A9 : Hid (Rp wr A8 (ringI ⟨x0, y0, x1, y1⟩ j L k)) := Lib.hid (rp_own hnx.out.own)
            have B9 : Hid (Below w.heap.size w wr) := Lib.hid (BX.out.trans (hnx.out.bel.mono BX.out.size))
            generalize ringI ⟨x0, y0, x1, y1⟩ j L k = G at *
            go_wp2_with fail
            refine ⟨⟨j + 1, G.length, c8, A8, by omega, by go_num, rfl, Lib.hid (by rw [NXT.out]), Lib.hid (by rw [NXT.out]; exact A9.out), B9⟩, by simp [intOf]; omega⟩
    · have hj4 : j = 4 := by omega
      subst hj4
      generalize hR : stepsF ⟨x0, y0, x1, y1⟩ l 4 = R at *
      have RL : R.length ≤ 64000 := by
        have h1 := steps_len ⟨x0, y0, x1, y1⟩ l 4
        rw [hR, ← HN.out] at h1; omega
      clear hR
      have CLN := Lib.hid (clone_any AA m cc R wr hm.out (by have := hm.out; omega) hA.out)
      go_wp2_with fail
      refine CLN.out.mono ?_
      rintro e w2 ⟨v2, rfl, own2, bel2⟩
      have B2 := Lib.hid (hB.out.trans (bel2.mono hB.out.size))
      -- Compact of the copy
      have CMP : Hid (Calls Try.prog 28 #[v2] w2 (RingC w w2 (Cl.cmpF R))) := Lib.hid (compact_own own2 (by omega) B2.out (by have := hB.out.size; omega))
      obtain ⟨A2, c2, rfl, -, -⟩ := own_form own2
      clear own2 bel2 hm hA hB
      go_wp2_with fail
      refine CMP.out.mono ?_
      rintro e w3 ⟨A3, c3, rfl, rp3, hc3, hm3, bel3⟩
      have HA : Hid (Cl.aroundF R = if (Cl.strip (Cl.cmpF R).length (Cl.cmpF R)).length < 3 then [] else Cl.strip (Cl.cmpF R).length (Cl.cmpF R)) := Lib.hid (by
        unfold Cl.aroundF
        simp only
        rw [strip_more (n := R.length) (Cl.cmp_len1 R)])
      have hCl : (Cl.cmpF R).length ≤ 64000 := by have := Cl.cmp_len1 R; omega
      have RP3 := Lib.hid rp3; have BL3 := Lib.hid bel3; clear rp3 bel3
      generalize Cl.cmpF R = C at *
      unfold maxLen at hm3
      clear CMP B2 CLN
      go_wp2_with fail
      go_loopw [0] (fun r wr => ∃ (x : List Cl.Pt) (f cc : Nat) (AA : Option Addr), x.length ≤ f ∧ f ≤ 64000 ∧ x.length ≤ cc ∧ cc ≤ 9223372036854775807 ∧ r = .slice AA x.length cc ∧ Hid (Cl.strip f x = Cl.strip C.length C) ∧ Hid (Rp wr AA x) ∧ Hid (Below w.heap.size w wr)) (fun r _ => lenOf r)
      case atStart => exact ⟨C, C.length, c3, A3, Nat.le_refl _, hCl, hc3, by omega, rfl, Lib.hid rfl, RP3, BL3⟩
      case round =>
        obtain ⟨x, f, cc, AA, hf, hf2, hxc, hcc, rfl, hst, hA, hB⟩ := hrel
        clear RP3 BL3
        by_cases h1 : 1 < x.length
        · have d1 : decide (1 < x.length) = true := by simpa using h1
          have d2 : decide ((1 : Int) < (x.length : Int)) = true := by simp; omega
          obtain ⟨b, off, rfl, hb, c0, c1⟩ := hA.out.at_ (k := 0) (by omega)
          obtain ⟨b', off', e', hb', q0, q1⟩ := hA.out.at_ (k := x.length - 1) (by omega)
          cases e'
          have i1 : (0 : Int) ≤ (x.length : Int) - 1 := by omega
          have i2 : ((x.length : Int) - 1).toNat = x.length - 1 := by omega
          have i3 : IntKind.i64.wrap ((x.length : Int) - 1) = (x.length : Int) - 1 := IntWalk.i64_in _ (by omega)
          have HE : Hid ((1 < x.length ∧ x.head? = x.getLast?) ↔ x[0] = x[x.length - 1]) := Lib.hid (by
            rw [List.head?_eq_getElem?, List.getLast?_eq_getElem?, List.getElem?_eq_getElem (by omega), List.getElem?_eq_getElem (by omega)]
            simp [h1])
          rw [Nat.zero_mul, Nat.add_zero] at c0 c1
          obtain ⟨fx, hfx⟩ : ∃ v, v = x[0].1 := ⟨_, rfl⟩
          obtain ⟨fy, hfy⟩ : ∃ v, v = x[0].2 := ⟨_, rfl⟩
          obtain ⟨lx, hlx⟩ : ∃ v, v = x[x.length - 1].1 := ⟨_, rfl⟩
          obtain ⟨ly, hly⟩ : ∃ v, v = x[x.length - 1].2 := ⟨_, rfl⟩
          rw [← hfx] at c0; rw [← hfy] at c1; rw [← hlx] at q0; rw [← hly] at q1
          have DEC : Hid ((1 < x.length ∧ x.head? = x.getLast?) ↔ (fx = lx ∧ fy = ly)) := Lib.hid (by
            rw [HE.out, hfx, hfy, hlx, hly]; exact Prod.ext_iff)
          clear hfx hfy hlx hly HE
          by_cases ex : fx = lx
          · have ex' : (fx == lx) = true := by simpa using ex
            by_cases ey : fy = ly
            · have ey' : (fy == ly) = true := by simpa using ey
              have GO := Lib.hid (strip_go (n := f - 1) (DEC.out.2 ⟨ex, ey⟩))
              clear ex ey
              have hd : x.dropLast.length = x.length - 1 := List.length_dropLast
              have hcut : ¬ cc = x.length - 1 := by omega
              have HD : Hid (Rp wr (some ⟨b, off, none⟩) x.dropLast) := Lib.hid (by
                have := Rp.pre2 hA.out (x.length - 1)
                rwa [← List.dropLast_eq_take] at this)
              have HD2 := Lib.hid hd; clear hd
              go_wp2_with fail
              go_quiet (fail)
              go_wp2_with fail
              refine ⟨⟨x.dropLast, f - 1, cc, some ⟨b, off, none⟩, by rw [HD2.out]; omega, by omega, by rw [HD2.out]; omega, hcc, by rw [HD2.out], Lib.hid ?_, Lib.hid HD.out, Lib.hid (below_drewN hB.out _)⟩, ?_⟩
              · rw [← hst.out, show f = f - 1 + 1 by omega]; exact GO.out.symm
              · simp [lenOf]; omega
            · have ey' : (fy == ly) = false := by simpa using ey
              have STOP := Lib.hid (fun h => ey (DEC.out.1 h).2)
              clear ex ey
              have FIN : Hid (Cl.strip C.length C = x) := Lib.hid (by rw [← hst.out]; exact strip_stop STOP.out)
              have HR : Hid (clipR l ⟨x0, y0, x1, y1⟩ = if x.length < 3 then [] else x) := Lib.hid (by rw [HP.out, HA.out, FIN.out])
              by_cases h3 : x.length < 3
              · have d3 : decide (x.length < 3) = true := by simpa using h3
                have d4 : decide ((x.length : Int) < 3) = true := by simp; omega
                have HR2 : Hid (clipR l ⟨x0, y0, x1, y1⟩ = []) := Lib.hid (by rw [HR.out, if_pos h3])
                clear h3
                go_wp2_with fail
                go_quiet (fail)
                clear i1 i2 i3
                go_wp2_with fail
                go_ret
                exact ⟨none, 0, by rw [HR2.out]; rfl, by rw [HR2.out]; exact Rd.nil_ _ _, by rw [HR2.out]; simp, by simp [maxLen], below_drewN hB.out _⟩
              · have d3 : decide (x.length < 3) = false := by simpa using h3
                have d4 : decide ((x.length : Int) < 3) = false := by simp; omega
                have HR2 : Hid (clipR l ⟨x0, y0, x1, y1⟩ = x) := Lib.hid (by rw [HR.out, if_neg h3])
                clear h3
                go_wp2_with fail
                go_quiet (fail)
                clear i1 i2 i3
                go_wp2_with fail
                go_ret
                exact ⟨_, cc, by rw [HR2.out]; rfl, by rw [HR2.out]; exact hA.out, by rw [HR2.out]; exact hxc, by unfold maxLen; omega, below_drewN hB.out _⟩
          · have ex' : (fx == lx) = false := by simpa using ex
            have STOP := Lib.hid (fun h => ex (DEC.out.1 h).1)
            clear ex
            have FIN : Hid (Cl.strip C.length C = x) := Lib.hid (by rw [← hst.out]; exact strip_stop STOP.out)
            have HR : Hid (clipR l ⟨x0, y0, x1, y1⟩ = if x.length < 3 then [] else x) := Lib.hid (by rw [HP.out, HA.out, FIN.out])
            by_cases h3 : x.length < 3
            · have d3 : decide (x.length < 3) = true := by simpa using h3
              have d4 : decide ((x.length : Int) < 3) = true := by simp; omega
              have HR2 : Hid (clipR l ⟨x0, y0, x1, y1⟩ = []) := Lib.hid (by rw [HR.out, if_pos h3])
              clear h3
              go_wp2_with fail
              go_quiet (fail)
              clear i1 i2 i3
              go_wp2_with fail
              go_ret
              exact ⟨none, 0, by rw [HR2.out]; rfl, by rw [HR2.out]; exact Rd.nil_ _ _, by rw [HR2.out]; simp, by simp [maxLen], below_drewN hB.out _⟩
            · have d3 : decide (x.length < 3) = false := by simpa using h3
              have d4 : decide ((x.length : Int) < 3) = false := by simp; omega
              have HR2 : Hid (clipR l ⟨x0, y0, x1, y1⟩ = x) := Lib.hid (by rw [HR.out, if_neg h3])
              clear h3
              go_wp2_with fail
              go_quiet (fail)
              clear i1 i2 i3
              go_wp2_with fail
              go_ret
              exact ⟨_, cc, by rw [HR2.out]; rfl, by rw [HR2.out]; exact hA.out, by rw [HR2.out]; exact hxc, by unfold maxLen; omega, below_drewN hB.out _⟩
        · have d1 : decide (1 < x.length) = false := by simpa using h1
          have d2 : decide ((1 : Int) < (x.length : Int)) = false := by simp; omega
          have STOP := Lib.hid (fun (h : 1 < x.length ∧ x.head? = x.getLast?) => h1 h.1)
          clear h1
          have FIN : Hid (Cl.strip C.length C = x) := Lib.hid (by rw [← hst.out]; exact strip_stop STOP.out)
          have HR : Hid (clipR l ⟨x0, y0, x1, y1⟩ = if x.length < 3 then [] else x) := Lib.hid (by rw [HP.out, HA.out, FIN.out])
          by_cases h3 : x.length < 3
          · have d3 : decide (x.length < 3) = true := by simpa using h3
            have d4 : decide ((x.length : Int) < 3) = true := by simp; omega
            have HR2 : Hid (clipR l ⟨x0, y0, x1, y1⟩ = []) := Lib.hid (by rw [HR.out, if_pos h3])
            clear h3
            go_wp2_with fail
            go_quiet (fail)
            go_wp2_with fail
            go_ret
            exact ⟨none, 0, by rw [HR2.out]; rfl, by rw [HR2.out]; exact Rd.nil_ _ _, by rw [HR2.out]; simp, by simp [maxLen], below_drewN hB.out _⟩
          · have d3 : decide (x.length < 3) = false := by simpa using h3
            have d4 : decide ((x.length : Int) < 3) = false := by simp; omega
            have HR2 : Hid (clipR l ⟨x0, y0, x1, y1⟩ = x) := Lib.hid (by rw [HR.out, if_neg h3])
            clear h3
            go_wp2_with fail
            go_quiet (fail)
            go_wp2_with fail
            go_ret
            exact ⟨_, cc, by rw [HR2.out]; rfl, by rw [HR2.out]; exact hA.out, by rw [HR2.out]; exact hxc, by unfold maxLen; omega, below_drewN hB.out _⟩
end Go.Proofs.Ytdiknijbjmhacaa
