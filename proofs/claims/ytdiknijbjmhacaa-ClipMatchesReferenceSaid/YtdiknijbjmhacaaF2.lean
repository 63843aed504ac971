/- WALKS: clip.Ring: the point at a cut. -/
import Derived.Test.YtdiknijbjmhacaaF1
set_option linter.unusedSimpArgs false
set_option linter.unusedVariables false
namespace Go.Proofs.Ytdiknijbjmhacaa
open Go.RowKit
attribute [local go_sem ↓] Go.wp_at_zero Go.wp_at_succ

theorem rof_sm {a b : Int} (ha : -4194304 ≤ a ∧ a ≤ 4194304) (hb : -4194304 ≤ b ∧ b ≤ 4194304) (h0 : b ≠ 0) : Cl.Sm (Cl.rof a b) := by
  unfold Cl.rof Cl.Sm; split <;> simp only <;> omega
def acrG (co : Int → Int → Int) (lim px py qx qy : Int) : Cl.Pt := (px + Cl.rround (Cl.rof (lim - co px py) (co qx qy - co px py)) (qx - px), py + Cl.rround (Cl.rof (lim - co px py) (co qx qy - co px py)) (qy - py))
set_option maxHeartbeats 8000000 in
theorem across_any (fid : FuncId) (co : Int → Int → Int) (lim px py qx qy : Int) (w : World) (HC : CoFn fid co) (HG : Goes fid) (hp : Cl.nearB px py = true) (hq : Cl.nearB qx qy = true) (hlim : -2097152 ≤ lim ∧ lim ≤ 2097152) (hne : co px py ≠ co qx qy) :
    Calls Try.prog 37 #[.agg #[.func (.func fid) #[] #[], .int .i64 lim], .agg #[.int .i64 px, .int .i64 py], .agg #[.int .i64 qx, .int .i64 qy]] w
      fun e w' => e = .returned (.agg #[.int .i64 (acrG co lim px py qx qy).1, .int .i64 (acrG co lim px py qx qy).2]) ∧ Below w.heap.size w w' := by
  have CP := Lib.hid (fun u => HC.1 px py u hp)
  have CQ := Lib.hid (fun u => HC.1 qx qy u hq)
  obtain ⟨bp1, bp2⟩ := HC.2 px py hp
  obtain ⟨bq1, bq2⟩ := HC.2 qx qy hq
  obtain ⟨l1, l2⟩ := hlim
  obtain ⟨⟨hp1, hp2⟩, hp3, hp4⟩ := Cl.near_iff.1 hp
  obtain ⟨⟨hq1, hq2⟩, hq3, hq4⟩ := Cl.near_iff.1 hq
  clear HC hp hq
  unfold Goes at HG
  unfold acrG
  generalize co px py = cp at *
  generalize co qx qy = cq at *
  have SM := rof_sm (a := lim - cp) (b := cq - cp) (by omega) (by omega) (by omega)
  have OF : Hid (∀ u, Calls Try.prog 48 #[.int .i64 (lim - cp), .int .i64 (cq - cp)] u fun e w' => e = .returned (rtv (Cl.rof (lim - cp) (cq - cp))) ∧ Below u.heap.size u w') := Lib.hid (fun u => of_any _ _ u (by omega) (by omega))
  unfold rtv at OF
  generalize Cl.rof (lim - cp) (cq - cp) = t at *
  obtain ⟨tn, td⟩ := t
  simp only at OF
  have RX : Hid (∀ u, Calls Try.prog 51 #[.agg #[.int .i64 tn, .int .i64 td], .int .i64 (qx - px)] u fun e w' => e = .returned (.int .i64 (Cl.rround ⟨tn, td⟩ (qx - px))) ∧ Below u.heap.size u w') := Lib.hid (fun u => round_any tn td (qx - px) u SM (by omega))
  have RY : Hid (∀ u, Calls Try.prog 51 #[.agg #[.int .i64 tn, .int .i64 td], .int .i64 (qy - py)] u fun e w' => e = .returned (.int .i64 (Cl.rround ⟨tn, td⟩ (qy - py))) ∧ Below u.heap.size u w') := Lib.hid (fun u => round_any tn td (qy - py) u SM (by omega))
  obtain ⟨rx1, rx2⟩ := rround_bd SM (m := qx - px) (by omega)
  obtain ⟨ry1, ry2⟩ := rround_bd SM (m := qy - py) (by omega)
  generalize Cl.rround ⟨tn, td⟩ (qx - px) = rx at *
  generalize Cl.rround ⟨tn, td⟩ (qy - py) = ry at *
  have i1 : IntKind.i64.wrap (lim - cp) = lim - cp := IntWalk.i64_in _ (by omega)
  have i2 : IntKind.i64.wrap (cq - cp) = cq - cp := IntWalk.i64_in _ (by omega)
  have i3 : IntKind.i64.wrap (qx - px) = qx - px := IntWalk.i64_in _ (by omega)
  have i4 : IntKind.i64.wrap (qy - py) = qy - py := IntWalk.i64_in _ (by omega)
  have i5 : IntKind.i64.wrap (px + rx) = px + rx := IntWalk.i64_in _ (by omega)
  have i6 : IntKind.i64.wrap (py + ry) = py + ry := IntWalk.i64_in _ (by omega)
  clear SM hne bp1 bp2 bq1 bq2 l1 l2 hp1 hp2 hp3 hp4 hq1 hq2 hq3 hq4 rx1 rx2 ry1 ry2
  obtain ⟨W0, hW⟩ : ∃ W0, W0 = (((w.alloc (.cells #[.func (.func fid) #[] #[], .int .i64 lim] 46)).alloc (.cells #[.int .i64 px, .int .i64 py] 24)).alloc (.cells #[.int .i64 qx, .int .i64 qy] 24)).alloc (.cells #[.int .i64 0, .int .i64 0] 24) := ⟨_, rfl⟩
  have H0 : W0.heap[w.heap.size]? = some (.cells #[.func (.func fid) #[] #[], .int .i64 lim] 46 (0, 0)) := by
    rw [hW]; exact (alloc_old _ _ (by simp; omega)).trans ((alloc_old _ _ (by simp; omega)).trans ((alloc_old _ _ (by simp)).trans (alloc_new' _ _ _ rfl)))
  have H1 : W0.heap[w.heap.size + 1]? = some (.cells #[.int .i64 px, .int .i64 py] 24 (0, 0)) := by
    rw [hW]; exact (alloc_old _ _ (by simp)).trans ((alloc_old _ _ (by simp)).trans (alloc_new' _ _ _ (by simp)))
  have H2 : W0.heap[w.heap.size + 1 + 1]? = some (.cells #[.int .i64 qx, .int .i64 qy] 24 (0, 0)) := by
    rw [hW]; exact (alloc_old _ _ (by simp)).trans (alloc_new' _ _ _ (by simp))
  have H3 : W0.heap[w.heap.size + 1 + 1 + 1]? = some (.cells #[.int .i64 0, .int .i64 0] 24 (0, 0)) := by
    rw [hW]; exact alloc_new' _ _ _ (by simp)
  have BB : Hid (Below w.heap.size w W0) := Lib.hid (by rw [hW]; exact ((((Below.refl _ _).alloc (Nat.le_refl _) _).alloc (by simp) _).alloc (by simp; omega) _).alloc (by simp; omega) _)
  have HZ : Hid (W0.heap.size = w.heap.size + 4) := Lib.hid (by rw [hW]; simp)
  obtain ⟨a0, a1⟩ := cell_two H0
  obtain ⟨b0, b1⟩ := cell_two H1
  obtain ⟨c0, c1⟩ := cell_two H2
  have K0 := Lib.hid H0; have K1 := Lib.hid H1; have K2 := Lib.hid H2; have K3 := Lib.hid H3
  clear H0 H1 H2 H3
  go_enter Try.func37, Try.ntmps37
  go_upto_region 1 with fail
  rw [← hW]
  clear hW
  go_cut [7] (fun s7 wx => ∃ p7 : Nat, s7 = .pointer (some ⟨p7, 0, none⟩) ∧ wx.heap[p7]? = some (.cells #[.int .i64 tn, .int .i64 td] 60 (0, 0)) ∧ Hid (W0.heap.size ≤ p7) ∧ Hid (Below W0.heap.size W0 wx))
  case first =>
    have A0 : ∀ w', OldOf W0.drew w' → w'.cell? ⟨w.heap.size, 0, none⟩ = some (.func (.func fid) #[] #[]) := fun w' h => h.c (by exact a0)
    have A1 : ∀ w', OldOf W0.drew w' → w'.cell? ⟨w.heap.size, 1, none⟩ = some (.int .i64 lim) := fun w' h => h.c (by exact a1)
    have B0 : ∀ w', OldOf W0.drew w' → w'.cell? ⟨w.heap.size + 1, 0, none⟩ = some (.int .i64 px) := fun w' h => h.c (by exact b0)
    have B1 : ∀ w', OldOf W0.drew w' → w'.cell? ⟨w.heap.size + 1, 1, none⟩ = some (.int .i64 py) := fun w' h => h.c (by exact b1)
    have C0 : ∀ w', OldOf W0.drew w' → w'.cell? ⟨w.heap.size + 1 + 1, 0, none⟩ = some (.int .i64 qx) := fun w' h => h.c (by exact c0)
    have C1 : ∀ w', OldOf W0.drew w' → w'.cell? ⟨w.heap.size + 1 + 1, 1, none⟩ = some (.int .i64 qy) := fun w' h => h.c (by exact c1)
    have o0 : OldOf W0.drew W0.drew := OldOf.refl _
    clear a0 a1 b0 b1 c0 c1
    go_region_held3 (fun w' => OldOf W0.drew w') (first | assumption | exact OldOf.alloc (by assumption) _ | exact o2 | (repeat (first | assumption | refine OldOf.alloc ?_ _ | (refine OldOf.set ?_ ?hp _; case hp => (first | (simp; done) | (simp; omega)))))) ((first | ((with_reducible refine (CP.out _).mono ?_); rintro e w2 ⟨rfl, hb2⟩; have o2 := OldOf.below (by assumption) hb2; have hc2 := (bcell hb2).1; have hf2 := (bcell hb2).2; have hs2 := hb2.size; (try simp at hs2); (first | (have hs8 := Nat.lt_of_succ_le hs2) | (have hs8 := Nat.lt_of_lt_of_le hs8 hs2) | skip)) | ((with_reducible refine (CQ.out _).mono ?_); rintro e w2 ⟨rfl, hb2⟩; have o2 := OldOf.below (by assumption) hb2; have hc2 := (bcell hb2).1; have hf2 := (bcell hb2).2; have hs2 := hb2.size; (try simp at hs2); (first | (have hs8 := Nat.lt_of_succ_le hs2) | (have hs8 := Nat.lt_of_lt_of_le hs8 hs2) | skip)) | ((with_reducible refine (OF.out _).mono ?_); rintro e w2 ⟨rfl, hb2⟩; have o2 := OldOf.below (by assumption) hb2; have hc2 := (bcell hb2).1; have hf2 := (bcell hb2).2; have hs2 := hb2.size; (try simp at hs2); (first | (have hs8 := Nat.lt_of_succ_le hs2) | (have hs8 := Nat.lt_of_lt_of_le hs8 hs2) | skip))))
    all_goals (go_wp2_with fail; go_meet; refine ⟨_, rfl, ?_, ?_, ?_⟩)
    all_goals first
      | (refine Lib.hid ?_; first | exact Nat.le_refl _ | (simp; done) | (simp; omega) | omega)
      | (refine Lib.hid (OldOf.undrew ?_); assumption)
      | (refine Lib.hid (OldOf.undrew ?_); (repeat (first | assumption | refine OldOf.alloc ?_ _ | (refine OldOf.set ?_ ?hp _; case hp => (first | (simp; done) | (simp; omega))))); done)
      | (repeat (first
          | with_reducible refine (drew_heap _ _).trans ?_
          | ((with_reducible refine alloc_new' _ _ _ ?hn); case hn => (simp; done))
          | ((with_reducible refine (alloc_old _ _ ?ho).trans ?_); case ho => (first | (simp; done) | (simp; omega)))
          | with_reducible refine set_two (a := .int .i64 0) (b := .int .i64 0) ?_ _ _
          | ((with_reducible refine (blk_two _ _ _ _ _ ?hb).trans ?_); case hb => (first | (simp; done) | (simp; omega)))
          | ((with_reducible refine (Below.block (by assumption) _ ?hc).trans ?_); case hc => (first | (simp; done) | (simp; omega) | omega))))
  case rest =>
    obtain ⟨p7, rfl, f7, hp7, hbx⟩ := hcut
    obtain ⟨wx, hwx⟩ : ∃ wx, wx = wc := ⟨_, rfl⟩; rw [← hwx] at f7 hbx ⊢; clear hwx wc
    have hz0 := HZ.out
    have G1 := (hbx.out.block (w.heap.size + 1) (by omega)).trans K1.out
    have G2 := (hbx.out.block (w.heap.size + 1 + 1) (by omega)).trans K2.out
    have G3 := (hbx.out.block (w.heap.size + 1 + 1 + 1) (by omega)).trans K3.out
    obtain ⟨t0, t1⟩ := cell_two f7
    obtain ⟨d0, d1⟩ := cell_two G1
    obtain ⟨e0, e1⟩ := cell_two G2
    obtain ⟨r0, r1⟩ := cell_two G3
    have rf0 := free_blk G3 0
    have rf1 := free_blk G3 1
    have hwz : w.heap.size + 1 + 1 + 1 < wx.heap.size := lt_of_block G3
    have BX : Hid (Below w.heap.size w wx) := Lib.hid (BB.out.trans (Below.mono hbx.out (by omega)))
    clear f7 G1 G2 G3 hz0 K0 K1 K2 K3 a0 a1 b0 b1 c0 c1 HG i1 i2
    have np7 : ¬ p7 = w.heap.size + 1 + 1 + 1 := by have := hp7.out; have := HZ.out; omega
    have np1 : ¬ w.heap.size + 1 = w.heap.size + 1 + 1 + 1 := by omega
    have np2 : ¬ w.heap.size + 1 + 1 = w.heap.size + 1 + 1 + 1 := by omega
    have T0 : ∀ w', But (· = w.heap.size + 1 + 1 + 1) wx.drew w' → w'.cell? ⟨p7, 0, none⟩ = some (.int .i64 tn) := fun w' h => h.c np7 (by exact t0)
    have T1 : ∀ w', But (· = w.heap.size + 1 + 1 + 1) wx.drew w' → w'.cell? ⟨p7, 1, none⟩ = some (.int .i64 td) := fun w' h => h.c np7 (by exact t1)
    have D0 : ∀ w', But (· = w.heap.size + 1 + 1 + 1) wx.drew w' → w'.cell? ⟨w.heap.size + 1, 0, none⟩ = some (.int .i64 px) := fun w' h => h.c np1 (by exact d0)
    have D1 : ∀ w', But (· = w.heap.size + 1 + 1 + 1) wx.drew w' → w'.cell? ⟨w.heap.size + 1, 1, none⟩ = some (.int .i64 py) := fun w' h => h.c np1 (by exact d1)
    have E0 : ∀ w', But (· = w.heap.size + 1 + 1 + 1) wx.drew w' → w'.cell? ⟨w.heap.size + 1 + 1, 0, none⟩ = some (.int .i64 qx) := fun w' h => h.c np2 (by exact e0)
    have E1 : ∀ w', But (· = w.heap.size + 1 + 1 + 1) wx.drew w' → w'.cell? ⟨w.heap.size + 1 + 1, 1, none⟩ = some (.int .i64 qy) := fun w' h => h.c np2 (by exact e1)
    have o0 : But (· = w.heap.size + 1 + 1 + 1) wx.drew wx.drew := But.refl _ _
    have o2 : OldOf wx.drew wx.drew := OldOf.refl _
    have RR := Lib.hid (And.intro r0 r1)
    have RF := Lib.hid (And.intro rf0 rf1)
    clear t0 t1 d0 d1 e0 e1 r0 r1 rf0 rf1
    go_wp2_with fail
    go_region_held3 (fun w' => But (· = w.heap.size + 1 + 1 + 1) wx.drew w') (first | assumption | exact But.of_below o2 | exact (But.set (X := (· = w.heap.size + 1 + 1 + 1)) (But.set (X := (· = w.heap.size + 1 + 1 + 1)) (But.of_below o2) rfl _) rfl _)) ((first | ((with_reducible refine (RX.out _).mono ?_); rintro e w2 ⟨rfl, hb2⟩; have o2 := OldOf.below o2 hb2) | ((with_reducible refine (RY.out _).mono ?_); rintro e w2 ⟨rfl, hb2⟩; have o2 := OldOf.below o2 hb2; have r0 := o2.c (by exact RR.out.1); have r1 := o2.c (by exact RR.out.2); have rf0 := (Below.frozen (p := ⟨w.heap.size + 1 + 1 + 1, 0, none⟩) o2 hwz).trans (by exact RF.out.1); have rf1 := (Below.frozen (p := ⟨w.heap.size + 1 + 1 + 1, 1, none⟩) o2 hwz).trans (by exact RF.out.2))))
    go_wp2_with fail
    refine bodyPost_ret (v := .agg #[.int .i64 (px + rx), .int .i64 (py + ry)]) (by simp [results, Try.results37, go_sem, r0, r1]) rfl ⟨rfl, ?_⟩
    exact ((BX.out.trans (o2.undrew.mono BX.out.size)).setCell (by show w.heap.size ≤ w.heap.size + 1 + 1 + 1; omega) _).setCell (by show w.heap.size ≤ w.heap.size + 1 + 1 + 1; omega) _
end Go.Proofs.Ytdiknijbjmhacaa
