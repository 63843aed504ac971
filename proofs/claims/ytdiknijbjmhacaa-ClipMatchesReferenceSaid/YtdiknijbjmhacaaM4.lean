/- WALKS: Line, by the reference (printed by gen_m4.py). -/
import Derived.Test.YtdiknijbjmhacaaM3
import Derived.Test.YtdiknijbjmhacaaL1
import Derived.Test.YtdiknijbjmhacaaE3
set_option linter.unusedSimpArgs false
set_option linter.unusedVariables false
namespace Go.Proofs.Ytdiknijbjmhacaa
open Go.RowKit
attribute [local go_sem ↓] Go.wp_at_zero Go.wp_at_succ

set_option maxRecDepth 10000 in
set_option maxHeartbeats 40000000 in
theorem rline_any (A : Option Addr) (n c : Nat) (l : List Cl.Pt) (x0 y0 x1 y1 : Int) (w : World) (hn : n = l.length) (hl : n ≤ 1000) (h : Rp w A l) :
    Calls Try.prog 13 #[.slice A n c, .agg #[.int .i64 x0, .int .i64 y0, .int .i64 x1, .int .i64 y1]] w (LinePost w (clipL l ⟨x0, y0, x1, y1⟩)) := by
  have B0 : Hid (Below w.heap.size w (w.alloc (.cells #[.int .i64 x0, .int .i64 y0, .int .i64 x1, .int .i64 y1] 26))) := (Below.refl _ _).alloc (Nat.le_refl _) _
  have X0 : Hid (BoxAt (w.alloc (.cells #[.int .i64 x0, .int .i64 y0, .int .i64 x1, .int .i64 y1] 26)) w.heap.size ⟨x0, y0, x1, y1⟩) := Lib.hid (heap_alloc_new w _)
  have PR := Lib.hid (fun u => rproper_any x0 y0 x1 y1 u)
  have NR := Lib.hid (fun u (hu : Rp u A l) => rnear_any A n c l u hn (by omega) hu)
  have H := Lib.hid h; have HN := Lib.hid hn; clear h hn
  have HP : Hid (clipL l ⟨x0, y0, x1, y1⟩ = if (Cl.boxB ⟨x0, y0, x1, y1⟩ && l.all fun p => Cl.nearB p.1 p.2) then Cl.lineF l ⟨x0, y0, x1, y1⟩ else []) := Lib.hid rfl
  have HNR : Hid ((l.all fun p => Cl.nearB p.1 p.2) = true → ∀ k (h : k < l.length), Cl.nearB l[k].1 l[k].2 = true) := Lib.hid (fun h => by rw [List.all_eq_true] at h; exact fun k hk => h _ (List.getElem_mem hk))
  generalize hbo : Cl.boxB ⟨x0, y0, x1, y1⟩ = bo at PR HP
  generalize hno : (l.all fun p => Cl.nearB p.1 p.2) = no at NR HP
  have HBO := Lib.hid hbo; have HNO := Lib.hid hno; clear hbo hno
  go_enter Try.func13, Try.ntmps13
  go_wp2_with fail
  refine (PR.out _).mono ?_
  rintro e w1 ⟨rfl, hb1⟩
  have X1 := Lib.hid (X0.out.below hb1 (by simp))
  have bw1 := Lib.hid (B0.out.trans (hb1.mono B0.out.size)); clear hb1 B0 X0 PR
  rcases bo with _ | _
  · go_wp2_with fail
    go_ret
    refine ⟨_, [], rfl, ?_, ?_, bw1.out⟩
    · rw [HP.out]; exact World.ownsRow_nil _ _ _ _
    · rw [HP.out]; exact PartsAt.nil_ _ _ _
  · go_wp2_with fail
    refine (NR.out _ (H.out.below bw1.out)).mono ?_
    rintro e w2 ⟨rfl, hb2⟩
    have X2 := Lib.hid (X1.out.below hb2 X1.out.lt)
    have bq := Lib.hid (bw1.out.trans (hb2.mono bw1.out.size)); clear hb2 bw1 X1 NR
    rcases no with _ | _
    · go_wp2_with fail
      go_ret
      refine ⟨_, [], rfl, ?_, ?_, bq.out⟩
      · rw [HP.out]; exact World.ownsRow_nil _ _ _ _
      · rw [HP.out]; exact PartsAt.nil_ _ _ _
    · have HQ : Hid (clipL l ⟨x0, y0, x1, y1⟩ = (refAll ⟨x0, y0, x1, y1⟩ l).flatMap Cl.fin) := Lib.hid (by rw [HP.out, refAll_line]; rfl)
      have HNL := Lib.hid (HNR.out HNO.out)
      clear HP HNR HNO
      go_wp2_with fail
      go_loopw [5, 6] (fun s5 s6 wr => ∃ (k hi : Nat) (vs : List Value) (P : List (List Cl.Pt)), 1 ≤ k ∧ (k ≤ n ∨ k = 1) ∧ s6 = .int .i64 k ∧ Hid (RS wr w2.heap.size hi s5 vs P) ∧ Hid (refAll ⟨x0, y0, x1, y1⟩ l = refRest ⟨x0, y0, x1, y1⟩ l k P) ∧ Hid (RNe ⟨x0, y0, x1, y1⟩ l k P) ∧ Hid (PL P k) ∧ Hid (Below w2.heap.size w2 wr)) (fun _ i _ => n - (intOf i).toNat)
      case atStart => exact ⟨1, w2.heap.size, [], [], Nat.le_refl _, .inr rfl, rfl, Lib.hid (RS.nil_ _ (Nat.le_refl _)), Lib.hid rfl, Lib.hid (fun p _ h => by omega), Lib.hid ⟨by simp, fun p hp => by cases hp⟩, Lib.hid (Below.refl _ _)⟩
      case round =>
        obtain ⟨k, hi, vs, P, hk1, hk, rfl, hrs, htot, hne, hpl, hbel⟩ := hrel
        obtain ⟨A5, c5, rfl, -, -⟩ := own_form hrs.out.out
        by_cases hlt : k < n
        · have hkl : k < l.length := by have := HN.out; omega
          have BR := Lib.hid (bq.out.trans (hbel.out.mono bq.out.size))
          have XR := Lib.hid (X2.out.below hbel.out X2.out.lt)
          obtain ⟨q0, q1, q2, q3⟩ := XR.out.c
          simp only at q0 q1 q2 q3
          obtain ⟨b, off, rfl, hb, c0, c1⟩ := (H.out.below BR.out).at_ hkl
          obtain ⟨b', off', e', hb', d0, d1⟩ := (H.out.below BR.out).at_ (k := k - 1) (by omega)
          cases e'
          obtain ⟨qx, hqx⟩ : ∃ x, x = l[k].1 := ⟨_, rfl⟩
          obtain ⟨qy, hqy⟩ : ∃ x, x = l[k].2 := ⟨_, rfl⟩
          obtain ⟨px, hpx⟩ : ∃ x, x = l[k - 1].1 := ⟨_, rfl⟩
          obtain ⟨py, hpy⟩ : ∃ x, x = l[k - 1].2 := ⟨_, rfl⟩
          rw [← hqx] at c0; rw [← hqy] at c1; rw [← hpx] at d0; rw [← hpy] at d1
          have NQ := HNL.out k hkl
          have NP := HNL.out (k - 1) (by omega)
          rw [← hqx, ← hqy] at NQ; rw [← hpx, ← hpy] at NP
          have EQ : Hid (l[k] = (qx, qy)) := Lib.hid (by rw [hqx, hqy])
          have EP : Hid (l[k - 1] = (px, py)) := Lib.hid (by rw [hpx, hpy])
          have NPh := Lib.hid NP
          have PC := Lib.hid (fun u => rpiece_any px py qx qy x0 y0 x1 y1 u NP NQ HBO.out)
          have RY := Lib.hid (fun h => ref_yes (p := (px, py)) (q := (qx, qy)) (b := ⟨x0, y0, x1, y1⟩) h)
          have STEP := Lib.hid (refRest_step (b := ⟨x0, y0, x1, y1⟩) hkl hk1 P)
          have NEXT := Lib.hid (hne.out.step hkl hk1)
          rw [EQ.out, EP.out] at STEP NEXT
          have HNE := Lib.hid (fun hi1 => hne.out (px, py) (by rw [List.getElem?_eq_getElem (show k - 1 < l.length by omega), EP.out]) hi1)
          clear NP NQ hqx hqy hpx hpy hne
          generalize hok : Cl.pcOk (px, py) (qx, qy) ⟨x0, y0, x1, y1⟩ = ok at PC RY
          generalize hin : Cl.inB (px, py) ⟨x0, y0, x1, y1⟩ = inn at HNE
          have HOK := Lib.hid hok; have HIN := Lib.hid hin; clear hok hin
          generalize refA (px, py) (qx, qy) ⟨x0, y0, x1, y1⟩ = ra at PC RY
          generalize refB (px, py) (qx, qy) ⟨x0, y0, x1, y1⟩ = rb at PC RY
          obtain ⟨ax, ay⟩ := ra
          obtain ⟨bx, by'⟩ := rb
          simp only at PC
          have k4 : (k : Int) - 1 < (n : Int) := by omega
          have k5 : (k : Int) ≤ (n : Int) := by omega
          have k6 : k ≤ n := by omega
          have k7 : (1 : Int) ≤ (k : Int) := by omega
          have k1 : (0 : Int) ≤ (k : Int) - 1 := by omega
          have k2 : ((k : Int) - 1).toNat = k - 1 := by omega
          have k3 : IntKind.i64.wrap ((k : Int) - 1) = (k : Int) - 1 := IntWalk.i64_in _ (by omega)
          go_upto_region 7 with fail
          go_cut [7, 8, 9] (fun s7 s8 s9 wx => ∃ p7 p8 : Nat, s7 = .pointer (some ⟨p7, 0, none⟩) ∧ s8 = .pointer (some ⟨p8, 0, none⟩) ∧ s9 = .bool ok ∧ wx.heap[p7]? = some (.cells #[.int .i64 ax, .int .i64 ay] 24 (0, 0)) ∧ wx.heap[p8]? = some (.cells #[.int .i64 bx, .int .i64 by'] 24 (0, 0)) ∧ Hid (wr.heap.size ≤ p7 ∧ wr.heap.size ≤ p8) ∧ Hid (Below wr.heap.size wr wx))
          case first =>
            have C0 : ∀ w', OldOf wr.drew w' → w'.cell? ⟨b, off + k * 2, none⟩ = some (.int .i64 qx) := fun w' h => h.c (by exact c0)
            have C1 : ∀ w', OldOf wr.drew w' → w'.cell? ⟨b, off + k * 2 + 1, none⟩ = some (.int .i64 qy) := fun w' h => h.c (by exact c1)
            have D0 : ∀ w', OldOf wr.drew w' → w'.cell? ⟨b, off + (k - 1) * 2, none⟩ = some (.int .i64 px) := fun w' h => h.c (by exact d0)
            have D1 : ∀ w', OldOf wr.drew w' → w'.cell? ⟨b, off + (k - 1) * 2 + 1, none⟩ = some (.int .i64 py) := fun w' h => h.c (by exact d1)
            have Q0 : ∀ w', OldOf wr.drew w' → w'.cell? ⟨w.heap.size, 0, none⟩ = some (.int .i64 x0) := fun w' h => h.c (by exact q0)
            have Q1 : ∀ w', OldOf wr.drew w' → w'.cell? ⟨w.heap.size, 1, none⟩ = some (.int .i64 y0) := fun w' h => h.c (by exact q1)
            have Q2 : ∀ w', OldOf wr.drew w' → w'.cell? ⟨w.heap.size, 2, none⟩ = some (.int .i64 x1) := fun w' h => h.c (by exact q2)
            have Q3 : ∀ w', OldOf wr.drew w' → w'.cell? ⟨w.heap.size, 3, none⟩ = some (.int .i64 y1) := fun w' h => h.c (by exact q3)
            have o0 : OldOf wr.drew wr.drew := OldOf.refl _
            clear c0 c1 d0 d1 q0 q1 q2 q3
            go_region_held3 (fun w' => OldOf wr.drew w') (first | assumption | exact OldOf.alloc (by assumption) _ | exact o2 | exact o2.alloc _ | exact (o2.alloc _).alloc _ | exact (o2.set (by simp) _).set (by simp) _ | (repeat (first | exact o2 | refine OldOf.alloc ?_ _ | refine OldOf.set ?_ (by simp) _))) (((with_reducible refine (PC.out _).mono ?_); rintro e w3 ⟨rfl, hb2⟩; have o2 := OldOf.below (by assumption) hb2; have hc2 := (bcell hb2).1; have hf2 := (bcell hb2).2; have hs2 := hb2.size; (try simp at hs2); (first | (have hs8 := Nat.lt_of_succ_le hs2; first | (have hs9 := Nat.lt_of_succ_lt hs8) | skip) | skip)))
            all_goals (go_wp2_with fail; go_meet; refine ⟨_, _, rfl, rfl, rfl, ?_, ?_, ?_, ?_⟩)
            all_goals first
              | (refine Lib.hid (OldOf.undrew ?_); (repeat (first | exact o2 | refine OldOf.alloc ?_ _ | (refine OldOf.set ?_ ?hp _; case hp => (simp; done)))); done)
              | (refine Lib.hid ⟨?_, ?_⟩ <;> (first | exact Nat.le_refl _ | exact Nat.le_add_right _ _ | (have := hb2.size; simp at this; omega)); done)
              | (repeat (first
                  | with_reducible refine (drew_heap _ _).trans ?_
                  | ((with_reducible refine alloc_new' _ _ _ ?hn); case hn => (simp; done))
                  | ((with_reducible refine (alloc_old _ _ ?ho).trans ?_); case ho => (first | (simp; done) | (have := hb2.size; simp at this ⊢; omega)))
                  | with_reducible refine set_two (a := .int .i64 0) (b := .int .i64 0) ?_ _ _
                  | ((with_reducible refine (blk_two _ _ _ _ _ ?hb).trans ?_); case hb => (first | (simp; done) | (have := hb2.size; simp at this; omega)))
                  | ((with_reducible refine (Below.block hb2 _ ?hc).trans ?_); case hc => (simp; try omega))))
          case rest =>
            obtain ⟨p7, p8, rfl, rfl, rfl, f7, f8, hpp, hbx⟩ := hcut
            obtain ⟨wx, hwx⟩ : ∃ wx, wx = wc := ⟨_, rfl⟩; rw [← hwx] at f7 f8 hbx ⊢; clear hwx wc
            have F7 := Lib.hid f7; have F8 := Lib.hid f8; clear f7 f8
            have RX := Lib.hid (hrs.out.below hbx.out)
            have DX := Lib.hid (hbel.out.trans (hbx.out.mono hbel.out.size)); have BX := Lib.hid (BR.out.trans (hbx.out.mono BR.out.size)); have XX := Lib.hid (XR.out.below hbx.out XR.out.lt)
            have hz7 : Hid (wr.heap.size ≤ wx.heap.size ∧ hi ≤ wr.heap.size) := Lib.hid ⟨hbx.out.size, hrs.out.hh⟩
            have LOWR := Lib.hid hrs.out.lowr; have LOWL := Lib.hid hrs.out.lowl
            have HCELL : wx.cell? ⟨b, off + (k - 1) * 2, none⟩ = some (.int .i64 px) ∧ wx.cell? ⟨b, off + (k - 1) * 2 + 1, none⟩ = some (.int .i64 py) := ⟨(hbx.out.cell (by exact hb)).trans d0, (hbx.out.cell (by exact hb)).trans d1⟩
            have HCELLh := Lib.hid HCELL; clear HCELL
            clear hbel BR XR hrs hbx c0 c1 d0 d1 q0 q1 q2 q3 PC hb hb'
            rcases ok with _ | _
            · have ESTP : Hid (refStep ⟨x0, y0, x1, y1⟩ (decide (k ≤ 1)) (px, py) (qx, qy) P = P) := Lib.hid (refStep_no HOK.out)
              rw [ESTP.out] at STEP NEXT
              go_wp2_with fail
              exact ⟨⟨k + 1, hi, vs, P, by omega, .inl (by omega), by go_num, RX, Lib.hid (htot.out.trans STEP.out), NEXT, Lib.hid hpl.out.up, DX⟩, by simp [intOf]; omega⟩
            · obtain ⟨ra1, ra2⟩ := RY.out rfl
              have EAB := Lib.hid (And.intro ra1 ra2); clear ra1 ra2 RY
              go_upto_region 10 with fail
              go_cut [57] (fun s wy => s = .bool (!decide (k ≤ 1) && inn) ∧ Hid (Below wx.heap.size wx wy))
              case first =>
                by_cases hk0 : k = 1
                · obtain rfl := hk0
                  have e1 : ((1 : Nat) : Int) = 1 := rfl
                  rw [e1]
                  (refine wp_region_noPanic ?_; refine wp_region_held_drew (S := (fun w' => OldOf wx.drew w')) (by kernel_rfl) ?_ (fun hHeld => ?_); exact (OldOf.refl _))
                  (refine wpAnyH_take (i := 0) (oi := _) (v := ?_) rfl (by kernel_rfl) (by kernel_rfl) (by kernel_rfl) (fun _ _ _ h => h) (Or.inl ⟨?_, ?_⟩) (by assumption) ?_; rotate_left; (focus (first | rfl | (simp [Region.wanted, yielded]; done))); (focus (intro w hSw; (try dsimp only at hSw); go_simp; all_goals (with_reducible rfl))); try simp only [Act.put, List.getElem_toArray, List.getElem_cons_zero, List.getElem_cons_succ, List.setIfInBounds_toArray, List.set_cons_zero, List.set_cons_succ])
                  (refine wpAnyH_take (i := 1) (oi := _) (v := .bool false) rfl (by kernel_rfl) (by kernel_rfl) (by kernel_rfl) (fun _ _ _ h => h) (Or.inl ⟨?_, ?_⟩) (by assumption) ?_; (focus (simp [Region.wanted, yielded]; done)); (focus (intro w hSw; (try dsimp only at hSw); go_simp; all_goals (with_reducible rfl))); try simp only [Act.put, List.getElem_toArray, List.getElem_cons_zero, List.getElem_cons_succ, List.setIfInBounds_toArray, List.set_cons_zero, List.set_cons_succ])
                  (refine wpAnyH_take (i := 2) (oi := _) (v := .bool false) rfl (by kernel_rfl) (by kernel_rfl) (by kernel_rfl) (fun _ _ _ h => h) (Or.inl ⟨?_, ?_⟩) (by assumption) ?_; (focus (simp [Region.wanted, yielded]; done)); (focus (intro w hSw; (try dsimp only at hSw); go_simp; all_goals (with_reducible rfl))); try simp only [Act.put, List.getElem_toArray, List.getElem_cons_zero, List.getElem_cons_succ, List.setIfInBounds_toArray, List.set_cons_zero, List.set_cons_succ])
                  (refine wpAnyH_take (i := 3) (oi := _) (v := undef) rfl (by kernel_rfl) (by kernel_rfl) (by kernel_rfl) (fun _ _ _ h => h) (Or.inr ⟨?_, rfl⟩) (by assumption) ?_; (focus (simp [Region.wanted, yielded]; done)); try simp only [Act.put, List.getElem_toArray, List.getElem_cons_zero, List.getElem_cons_succ, List.setIfInBounds_toArray, List.set_cons_zero, List.set_cons_succ])
                  (refine wpAnyH_take (i := 4) (oi := _) (v := undef) rfl (by kernel_rfl) (by kernel_rfl) (by kernel_rfl) (fun _ _ _ h => h) (Or.inr ⟨?_, rfl⟩) (by assumption) ?_; (focus (simp [Region.wanted, yielded]; done)); try simp only [Act.put, List.getElem_toArray, List.getElem_cons_zero, List.getElem_cons_succ, List.setIfInBounds_toArray, List.set_cons_zero, List.set_cons_succ])
                  (refine wpAnyH_take (i := 5) (oi := _) (v := undef) rfl (by kernel_rfl) (by kernel_rfl) (by kernel_rfl) (fun _ _ _ h => h) (Or.inr ⟨?_, rfl⟩) (by assumption) ?_; (focus (simp [Region.wanted, yielded]; done)); try simp only [Act.put, List.getElem_toArray, List.getElem_cons_zero, List.getElem_cons_succ, List.setIfInBounds_toArray, List.set_cons_zero, List.set_cons_succ])
                  (refine wpAnyH_take (i := 6) (oi := _) (v := undef) rfl (by kernel_rfl) (by kernel_rfl) (by kernel_rfl) (fun _ _ _ h => h) (Or.inr ⟨?_, rfl⟩) (by assumption) ?_; (focus (simp [Region.wanted, yielded]; done)); try simp only [Act.put, List.getElem_toArray, List.getElem_cons_zero, List.getElem_cons_succ, List.setIfInBounds_toArray, List.set_cons_zero, List.set_cons_succ])
                  (refine wpAnyH_take (i := 7) (oi := _) (v := undef) rfl (by kernel_rfl) (by kernel_rfl) (by kernel_rfl) (fun _ _ _ h => h) (Or.inr ⟨?_, rfl⟩) (by assumption) ?_; (focus (simp [Region.wanted, yielded]; done)); try simp only [Act.put, List.getElem_toArray, List.getElem_cons_zero, List.getElem_cons_succ, List.setIfInBounds_toArray, List.set_cons_zero, List.set_cons_succ])
                  (refine wpAnyH_take (i := 8) (oi := _) (v := undef) rfl (by kernel_rfl) (by kernel_rfl) (by kernel_rfl) (fun _ _ _ h => h) (Or.inr ⟨?_, rfl⟩) (by assumption) ?_; (focus (simp [Region.wanted, yielded]; done)); try simp only [Act.put, List.getElem_toArray, List.getElem_cons_zero, List.getElem_cons_succ, List.setIfInBounds_toArray, List.set_cons_zero, List.set_cons_succ])
                  (refine wpAnyH_take (i := 9) (oi := _) (v := undef) rfl (by kernel_rfl) (by kernel_rfl) (by kernel_rfl) (fun _ _ _ h => h) (Or.inr ⟨?_, rfl⟩) (by assumption) ?_; (focus (simp [Region.wanted, yielded]; done)); try simp only [Act.put, List.getElem_toArray, List.getElem_cons_zero, List.getElem_cons_succ, List.setIfInBounds_toArray, List.set_cons_zero, List.set_cons_succ])
                  (refine wpAnyH_take (i := 10) (oi := _) (v := .bool false) rfl (by kernel_rfl) (by kernel_rfl) (by kernel_rfl) (fun _ _ _ h => h) (Or.inl ⟨?_, ?_⟩) (by assumption) ?_; (focus (simp [Region.wanted, yielded]; done)); (focus (intro w hSw; (try dsimp only at hSw); go_simp; all_goals (with_reducible rfl))); try simp only [Act.put, List.getElem_toArray, List.getElem_cons_zero, List.getElem_cons_succ, List.setIfInBounds_toArray, List.set_cons_zero, List.set_cons_succ])
                  (refine wpAnyH_done (by kernel_rfl) ?_ _; refine NoPanic.normal ?_)
                  clear hHeld
                  go_wp2_with fail
                  go_meet
                  exact ⟨rfl, Lib.hid ((Below.refl _ _).drew)⟩
                · have d1 : decide ((1 : Int) < (k : Int)) = true := by simp; omega
                  have d2 : decide (1 < k) = true := by simp; omega
                  have d3 : Hid (decide (k ≤ 1) = false) := Lib.hid (by simp; omega)
                  have k8 : (1 : Int) < (k : Int) := by omega
                  have k9 : 1 < k := by omega
                  obtain ⟨q0, q1, q2, q3⟩ := XX.out.c
                  obtain ⟨d0, d1'⟩ := HCELLh.out
                  have D0 : ∀ w', OldOf wx.drew w' → w'.cell? ⟨b, off + (k - 1) * 2, none⟩ = some (.int .i64 px) := fun w' h => h.c (by exact d0)
                  have D1 : ∀ w', OldOf wx.drew w' → w'.cell? ⟨b, off + (k - 1) * 2 + 1, none⟩ = some (.int .i64 py) := fun w' h => h.c (by exact d1')
                  have Q0 : ∀ w', OldOf wx.drew w' → w'.cell? ⟨w.heap.size, 0, none⟩ = some (.int .i64 x0) := fun w' h => h.c (by exact q0)
                  have Q1 : ∀ w', OldOf wx.drew w' → w'.cell? ⟨w.heap.size, 1, none⟩ = some (.int .i64 y0) := fun w' h => h.c (by exact q1)
                  have Q2 : ∀ w', OldOf wx.drew w' → w'.cell? ⟨w.heap.size, 2, none⟩ = some (.int .i64 x1) := fun w' h => h.c (by exact q2)
                  have Q3 : ∀ w', OldOf wx.drew w' → w'.cell? ⟨w.heap.size, 3, none⟩ = some (.int .i64 y1) := fun w' h => h.c (by exact q3)
                  have o0 : OldOf wx.drew wx.drew := OldOf.refl _
                  have IN : Hid (∀ u, Calls Try.prog 20 #[.agg #[.int .i64 px, .int .i64 py], .agg #[.int .i64 x0, .int .i64 y0, .int .i64 x1, .int .i64 y1]] u fun e w' => e = .returned (.bool inn) ∧ Below u.heap.size u w') := Lib.hid (fun u => by rw [← HIN.out]; exact rin_pt px py x0 y0 x1 y1 u)
                  clear d0 d1' q0 q1 q2 q3 hk0
                  go_region_held3 (fun w' => OldOf wx.drew w') (first | assumption | exact o2) (((with_reducible refine (IN.out _).mono ?_); rintro e w4 ⟨rfl, hb4⟩; have o2 := OldOf.below (by assumption) hb4))
                  all_goals (go_wp2_with fail; go_meet; exact ⟨by rw [d3.out]; simp, Lib.hid o2.undrew⟩)
              case rest =>
                obtain ⟨rfl, hby⟩ := hcut
                obtain ⟨wy, hwy⟩ : ∃ wy, wy = wc := ⟨_, rfl⟩; rw [← hwy] at hby ⊢; clear hwy wc
                have RY' := Lib.hid (RX.out.below hby.out)
                have DY := Lib.hid (DX.out.trans (hby.out.mono DX.out.size))
                have G7 := Lib.hid ((hby.out.block _ (lt_of_block F7.out)).trans F7.out); have G8 := Lib.hid ((hby.out.block _ (lt_of_block F8.out)).trans F8.out)
                have hz8 : Hid (wr.heap.size ≤ wy.heap.size ∧ hi ≤ wr.heap.size ∧ wx.heap.size ≤ wy.heap.size) := Lib.hid ⟨Nat.le_trans hz7.out.1 hby.out.size, hz7.out.2, hby.out.size⟩
                clear hby RX DX BX XX F7 F8 HCELLh
                obtain ⟨t0, t1⟩ := cell_two G7.out
                obtain ⟨t2, t3⟩ := cell_two G8.out
                generalize hfl : (!decide (k ≤ 1) && inn) = fl
                have HFL := Lib.hid hfl; clear hfl
                rcases fl with _ | _
                · have ESTP : Hid (refStep ⟨x0, y0, x1, y1⟩ (decide (k ≤ 1)) (px, py) (qx, qy) P = P ++ [[(ax, ay), (bx, by')]]) := Lib.hid (by rw [refStep_new HOK.out (by rw [HIN.out]; exact HFL.out), ← EAB.out.1, ← EAB.out.2])
                  rw [ESTP.out] at STEP NEXT
                  have hPl : P.length ≤ 1000 := by have := hpl.out.1; omega
                  have hzb : w2.heap.size ≤ wy.heap.size := DY.out.size
                  go_wp2_with (at_builtin; refine wpList_app1G rfl (.tmp 71) (.tmp 75) 29 rfl Try.underlying29 info_pts rfl (by decide) w2.heap.size _ _ _ _ _ rfl (by simp [Value.oneCell']) rfl rfl (by simp) (by exact (RY'.out.out.alloc _)) (by simp; omega) (by omega) (by omega) ?_; intro v6 w6 hown6 hb6 hg6)
                  have hs6 := hb6.size
                  simp at hs6
                  exact ⟨⟨k + 1, wy.heap.size, vs ++ [.slice (some ⟨wy.heap.size, 0, none⟩) 2 2], P ++ [[(ax, ay), (bx, by')]], by omega, .inl (by omega), by go_num, Lib.hid (RY'.out.push hown6 hg6 (by omega)), Lib.hid (htot.out.trans STEP.out), NEXT, Lib.hid (hpl.out.push _ _), Lib.hid ((DY.out.trans ((Below.refl _ _).alloc (by omega) _)).trans hb6)⟩, by simp [intOf]; omega⟩
                · have HB2 : 1 < k ∧ inn = true := by have := HFL.out; simp only [Bool.and_eq_true, Bool.not_eq_true', decide_eq_false_iff_not] at this; exact ⟨by omega, this.2⟩
                  obtain ⟨ps, last, rfl⟩ := snoc_of (HNE.out HB2.1 HB2.2)
                  have ESTP : Hid (refStep ⟨x0, y0, x1, y1⟩ (decide (k ≤ 1)) (px, py) (qx, qy) (ps ++ [last]) = ps ++ [last ++ [(ax, ay), (bx, by')]]) := Lib.hid (by rw [refStep_grow HOK.out (by rw [HIN.out]; exact HFL.out), ← EAB.out.1, ← EAB.out.2])
                  rw [ESTP.out] at STEP NEXT
                  clear HB2 HNE
                  have hlen := RY'.out.len
                  rw [List.length_append, List.length_singleton] at hlen
                  obtain ⟨go, rfl⟩ : ∃ go, A5 = some ⟨go, 0, none⟩ := by
                    rcases RY'.out.out.2 with ⟨hv, h0⟩ | ⟨g, cap, cur, hv, _⟩
                    · simp at h0
                    · injection hv with e1 _ _; exact ⟨g, e1⟩
                  obtain ⟨vl, hvl⟩ : ∃ vl, vs[ps.length]? = some vl := ⟨_, List.getElem?_eq_getElem (by omega)⟩
                  obtain ⟨n1, n2⟩ := RY'.out.now ps.length vl last (by simp) hvl (by rw [List.getElem?_append_right (by omega), Nat.sub_self]; rfl)
                  obtain ⟨Al, cl, rfl, -, -⟩ := own_form n1
                  obtain ⟨br, offr, er, hbr, hcr⟩ := (rd_own1 RY'.out.out).at_ (k := ps.length) (by omega)
                  cases er
                  rw [Nat.zero_add] at hcr
                  have hcr2 : wy.cell? ⟨go, ps.length, none⟩ = some (.slice Al last.length cl) := by rw [hcr]; have := hvl; rw [List.getElem?_eq_getElem (by omega)] at this; exact this
                  obtain ⟨gb1, cur, gb2⟩ := own_blk RY'.out.out
                  have hfz := free_blk gb2 ps.length
                  have N1 := Lib.hid n1; have N2 := Lib.hid n2; have GB2 := Lib.hid gb2; have HVL := Lib.hid hvl
                  have hlast : last.length ≤ 2000 := by have := hpl.out.2 last (by simp); omega
                  have hpsl : ps.length ≤ 1000 := by have := hpl.out.1; simp at this; omega
                  clear n1 n2 hcr gb2 hvl hlen hbr gb1
                  have j1 : IntKind.i64.wrap (ps.length : Int) = (ps.length : Int) := IntWalk.i64_in _ (by omega)
                  have j2 : (ps.length : Int) < (ps.length : Int) + 1 := by omega
                  obtain ⟨gl, rfl⟩ : ∃ gl, Al = some ⟨gl, 0, none⟩ := by
                    rcases N1.out.2 with ⟨hv, h0⟩ | ⟨g, cap, cur, hv, _⟩
                    · have := N2.out; omega
                    · injection hv with e1 _ _; exact ⟨g, e1⟩
                  have hgl : gl < wr.heap.size := LOWL.out ps.length _ last gl (by simp) HVL.out (by rw [List.getElem?_append_right (by omega), Nat.sub_self]; rfl) rfl
                  have hgo : go < wr.heap.size := LOWR.out go rfl
                  have np7 : ¬ (p7 = gl ∨ p7 = go) := by have := hpp.out; omega
                  have np8 : ¬ (p8 = gl ∨ p8 = go) := by have := hpp.out; omega
                  have C0 : ∀ w', But (fun k => k = gl ∨ k = go) wy w' → w'.cell? ⟨p7, 0, none⟩ = some (.int .i64 ax) := fun w' h => h.c np7 (by exact t0)
                  have C1 : ∀ w', But (fun k => k = gl ∨ k = go) wy w' → w'.cell? ⟨p7, 1, none⟩ = some (.int .i64 ay) := fun w' h => h.c np7 (by exact t1)
                  have C2 : ∀ w', But (fun k => k = gl ∨ k = go) wy w' → w'.cell? ⟨p8, 0, none⟩ = some (.int .i64 bx) := fun w' h => h.c np8 (by exact t2)
                  have C3 : ∀ w', But (fun k => k = gl ∨ k = go) wy w' → w'.cell? ⟨p8, 1, none⟩ = some (.int .i64 by') := fun w' h => h.c np8 (by exact t3)
                  have o0 : But (fun k => k = gl ∨ k = go) wy wy.drew := But.drew (But.refl _ _)
                  have ND : Hid (wy.drew.ownsRow hi 24 2 (.slice (some ⟨gl, 0, none⟩) last.length cl) last.length (last.flatMap ptCells)) := Lib.hid N1.out
                  have GBD : Hid (wy.drew.heap[go]? = some (.cells cur 22 (0, 0))) := Lib.hid GB2.out
                  have hzh : hi ≤ wy.drew.heap.size := by have := hz8.out; show hi ≤ wy.heap.size; omega
                  have hgy : go < wy.heap.size := lt_of_block GB2.out
                  clear np7 np8 t0 t1 t2 t3 hgl hgo
                  go_upto_region 11 with fail
                  (refine wp_region_noPanic ?_; refine wp_region_held_drew (S := (fun w' => But (fun k => k = gl ∨ k = go) wy w')) (by kernel_rfl) ?_ (fun hHeld => ?_); exact o0)
                  (refine wpAnyH_take (i := 0) (oi := _) (v := ?_) rfl (by kernel_rfl) (by kernel_rfl) (by kernel_rfl) (fun _ _ _ h => h) (Or.inl ⟨?_, ?_⟩) (by assumption) ?_; rotate_left; (focus (first | rfl | (simp [Region.wanted, yielded]; done))); (focus (intro w hSw; (try dsimp only at hSw); go_simp; all_goals (with_reducible rfl))); try simp only [Act.put, List.getElem_toArray, List.getElem_cons_zero, List.getElem_cons_succ, List.setIfInBounds_toArray, List.set_cons_zero, List.set_cons_succ])
                  (refine wpAnyH_take (i := 1) (oi := _) (v := ?_) rfl (by kernel_rfl) (by kernel_rfl) (by kernel_rfl) (fun _ _ _ h => h) (Or.inl ⟨?_, ?_⟩) (by assumption) ?_; rotate_left; (focus (first | rfl | (simp [Region.wanted, yielded]; done))); (focus (intro w hSw; (try dsimp only at hSw); go_simp; all_goals (with_reducible rfl))); try simp only [Act.put, List.getElem_toArray, List.getElem_cons_zero, List.getElem_cons_succ, List.setIfInBounds_toArray, List.set_cons_zero, List.set_cons_succ])
                  (refine wpAnyH_take (i := 2) (oi := _) (v := ?_) rfl (by kernel_rfl) (by kernel_rfl) (by kernel_rfl) (fun _ _ _ h => h) (Or.inl ⟨?_, ?_⟩) (by assumption) ?_; rotate_left; (focus (first | rfl | (simp [Region.wanted, yielded]; done))); (focus (intro w hSw; (try dsimp only at hSw); go_simp; all_goals (with_reducible rfl))); try simp only [Act.put, List.getElem_toArray, List.getElem_cons_zero, List.getElem_cons_succ, List.setIfInBounds_toArray, List.set_cons_zero, List.set_cons_succ])
                  (refine wpAnyH_take (i := 3) (oi := _) (v := ?_) rfl (by kernel_rfl) (by kernel_rfl) (by kernel_rfl) (fun _ _ _ h => h) (Or.inl ⟨?_, ?_⟩) (by assumption) ?_; rotate_left; (focus (first | rfl | (simp [Region.wanted, yielded]; done))); (focus (intro w hSw; (try dsimp only at hSw); go_simp; all_goals (with_reducible rfl))); try simp only [Act.put, List.getElem_toArray, List.getElem_cons_zero, List.getElem_cons_succ, List.setIfInBounds_toArray, List.set_cons_zero, List.set_cons_succ])
                  (refine wpAnyH_take (i := 4) (oi := _) (v := ?_) rfl (by kernel_rfl) (by kernel_rfl) (by kernel_rfl) (fun _ _ _ h => h) (Or.inl ⟨?_, ?_⟩) (by assumption) ?_; rotate_left; (focus (first | rfl | (simp [Region.wanted, yielded]; done))); (focus (intro w hSw; (try dsimp only at hSw); go_simp; all_goals (with_reducible rfl))); try simp only [Act.put, List.getElem_toArray, List.getElem_cons_zero, List.getElem_cons_succ, List.setIfInBounds_toArray, List.set_cons_zero, List.set_cons_succ])
                  (refine wpAnyH_take (i := 5) (oi := _) (v := ?_) rfl (by kernel_rfl) (by kernel_rfl) (by kernel_rfl) (fun _ _ _ h => h) (Or.inl ⟨?_, ?_⟩) (by assumption) ?_; rotate_left; (focus (first | rfl | (simp [Region.wanted, yielded]; done))); (focus (intro w hSw; (try dsimp only at hSw); go_simp; all_goals (with_reducible rfl))); try simp only [Act.put, List.getElem_toArray, List.getElem_cons_zero, List.getElem_cons_succ, List.setIfInBounds_toArray, List.set_cons_zero, List.set_cons_succ])
                  (refine wpAnyH_take (i := 6) (oi := _) (v := ?_) rfl (by kernel_rfl) (by kernel_rfl) (by kernel_rfl) (fun _ _ _ h => h) (Or.inl ⟨?_, ?_⟩) (by assumption) ?_; rotate_left; (focus (first | rfl | (simp [Region.wanted, yielded]; done))); (focus (intro w hSw; (try dsimp only at hSw); go_simp; all_goals (with_reducible rfl))); try simp only [Act.put, List.getElem_toArray, List.getElem_cons_zero, List.getElem_cons_succ, List.setIfInBounds_toArray, List.set_cons_zero, List.set_cons_succ])
                  (refine wpAnyH_take (i := 8) (oi := _) (v := ?_) rfl (by kernel_rfl) (by kernel_rfl) (by kernel_rfl) (fun _ _ _ h => h) (Or.inl ⟨?_, ?_⟩) (by assumption) ?_; rotate_left; (focus (first | rfl | (simp [Region.wanted, yielded]; done))); (focus (intro w hSw; (try dsimp only at hSw); go_simp; all_goals (with_reducible rfl))); try simp only [Act.put, List.getElem_toArray, List.getElem_cons_zero, List.getElem_cons_succ, List.setIfInBounds_toArray, List.set_cons_zero, List.set_cons_succ])
                  (refine wpAnyH_take (i := 9) (oi := _) (v := ?_) rfl (by kernel_rfl) (by kernel_rfl) (by kernel_rfl) (fun _ _ _ h => h) (Or.inl ⟨?_, ?_⟩) (by assumption) ?_; rotate_left; (focus (first | rfl | (simp [Region.wanted, yielded]; done))); (focus (intro w hSw; (try dsimp only at hSw); go_simp; all_goals (with_reducible rfl))); try simp only [Act.put, List.getElem_toArray, List.getElem_cons_zero, List.getElem_cons_succ, List.setIfInBounds_toArray, List.set_cons_zero, List.set_cons_succ])
                  (refine wpAnyH_ready (rs := [7, 10]) (by kernel_rfl) (by simp) ?_; refine AllReadyH.cons (o := _) rfl (fun K hK => ?_) (AllReadyH.cons (o := _) rfl (fun K hK => ?_) AllReadyH.nil))
                  · go_simp
                    (refine hK.out _ _ o0 (fun hHeld2 => ?_); clear hK K hHeld; have hHeld := hHeld2; clear hHeld2; try simp only [Act.put, List.getElem_toArray, List.getElem_cons_zero, List.getElem_cons_succ, List.setIfInBounds_toArray, List.set_cons_zero, List.set_cons_succ])
                    (refine wpAnyH_ready (rs := [10]) (by kernel_rfl) (by simp) ?_; refine AllReadyH.cons (o := _) rfl (fun K hK => ?_) AllReadyH.nil; go_simp)
                    (refine hK.out _ _ (But.alloc o0 _) (fun hHeld2 => ?_); clear hK K hHeld; have hHeld := hHeld2; clear hHeld2; try simp only [Act.put, List.getElem_toArray, List.getElem_cons_zero, List.getElem_cons_succ, List.setIfInBounds_toArray, List.set_cons_zero, List.set_cons_succ])
                    (refine wpAnyH_ready (rs := [11]) (by kernel_rfl) (by simp) ?_; refine AllReadyH.cons (o := _) rfl (fun K hK => ?_) AllReadyH.nil)
                    refine step_appB rfl (.tmp 65) (.tmp 68) 22 rfl Try.underlying22 info_pt rfl (by decide) hi (.slice (some ⟨gl, 0, none⟩) last.length cl) last.length 2 (last.flatMap ptCells) wy.drew #[.int .i64 ax, .int .i64 ay, .int .i64 bx, .int .i64 by'] rfl (by simp [Value.oneCell']) rfl rfl rfl (by exact ND.out) hzh (by omega) (by omega) (by decide) ?_
                    intro A6 c6 w6 hown6 hb6 hg6
                    have e6 := blk_keep hg6 (ND.out.alloc _) ((alloc_old _ _ (lt_of_block GBD.out)).trans GBD.out) pt_sl
                    have hc6 := (cell_of_row w6 go ps.length _ _ _ e6).trans ((cell_of_row wy go ps.length _ _ _ GB2.out).symm.trans hcr2)
                    have hf6 := free_blk e6 ps.length
                    (refine hK.out _ _ (But.of_grown hg6 (by intro r hr; exact .inl (by simpa [Value.ownBlock] using hr.symm))) (fun hHeld2 => ?_); clear hK K hHeld; have hHeld := hHeld2; clear hHeld2; try simp only [Act.put, List.getElem_toArray, List.getElem_cons_zero, List.getElem_cons_succ, List.setIfInBounds_toArray, List.set_cons_zero, List.set_cons_succ])
                    (refine wpAnyH_take (i := 12) (oi := _) (v := ?_) rfl (by kernel_rfl) (by kernel_rfl) (by kernel_rfl) (fun _ _ _ h => h) (Or.inl ⟨?_, ?_⟩) (by assumption) ?_; rotate_left; (focus (first | rfl | (simp [Region.wanted, yielded]; done))); (focus (intro w hSw; (try dsimp only at hSw); go_simp; all_goals (with_reducible rfl))); try simp only [Act.put, List.getElem_toArray, List.getElem_cons_zero, List.getElem_cons_succ, List.setIfInBounds_toArray, List.set_cons_zero, List.set_cons_succ])
                    (refine wpAnyH_ready (rs := [13]) (by kernel_rfl) (by simp) ?_; refine AllReadyH.cons (o := _) rfl (fun K hK => ?_) AllReadyH.nil; go_simp)
                    (refine hK.out _ _ (But.set (p := ⟨go, ps.length, none⟩) hHeld (.inr rfl) (.slice A6 (last.length + 2) c6)) (fun hHeld2 => ?_); clear hK K hHeld; have hHeld := hHeld2; clear hHeld2; try simp only [Act.put, List.getElem_toArray, List.getElem_cons_zero, List.getElem_cons_succ, List.setIfInBounds_toArray, List.set_cons_zero, List.set_cons_succ])
                    (refine wpAnyH_done (by kernel_rfl) ?_ _; refine NoPanic.normal ?_)
                    clear hHeld
                    go_wp2_with fail
                    have hs6 := hb6.size
                    simp at hs6
                    have hPn : (ps ++ [last]).length = ps.length + 1 := by simp
                    have RY2 : RS wy.drew w2.heap.size hi (.slice (some ⟨go, 0, none⟩) (ps.length + 1) c5) vs (ps ++ [last]) := by
                      have := RY'.out.below (Below.refl wy.heap.size wy).drew
                      rwa [hPn] at this
                    have hbase := RY'.out.hb
                    have hgb := (own_blk RY'.out.out).1
                    have BEL : Below w2.heap.size w2 w6 := (DY.out.drew).trans (hb6.mono hbase)
                    exact ⟨⟨k + 1, hi, vs.set ps.length (.slice A6 (last.length + 2) c6), ps ++ [last ++ [(ax, ay), (bx, by')]], by omega, .inl (by omega), by go_num, Lib.hid (RY2.grow rfl HVL.out hown6 hg6 (by exact hs6)), Lib.hid (htot.out.trans STEP.out), NEXT, Lib.hid (hpl.out.grow _ _), Lib.hid (BEL.setCell (by exact hgb) _)⟩, by simp [intOf]; omega⟩
                  · go_simp
                    (refine hK.out _ _ (But.alloc o0 _) (fun hHeld2 => ?_); clear hK K hHeld; have hHeld := hHeld2; clear hHeld2; try simp only [Act.put, List.getElem_toArray, List.getElem_cons_zero, List.getElem_cons_succ, List.setIfInBounds_toArray, List.set_cons_zero, List.set_cons_succ])
                    (refine wpAnyH_ready (rs := [7]) (by kernel_rfl) (by simp) ?_; refine AllReadyH.cons (o := _) rfl (fun K hK => ?_) AllReadyH.nil; go_simp)
                    (refine hK.out _ _ (But.alloc o0 _) (fun hHeld2 => ?_); clear hK K hHeld; have hHeld := hHeld2; clear hHeld2; try simp only [Act.put, List.getElem_toArray, List.getElem_cons_zero, List.getElem_cons_succ, List.setIfInBounds_toArray, List.set_cons_zero, List.set_cons_succ])
                    (refine wpAnyH_ready (rs := [11]) (by kernel_rfl) (by simp) ?_; refine AllReadyH.cons (o := _) rfl (fun K hK => ?_) AllReadyH.nil)
                    refine step_appB rfl (.tmp 65) (.tmp 68) 22 rfl Try.underlying22 info_pt rfl (by decide) hi (.slice (some ⟨gl, 0, none⟩) last.length cl) last.length 2 (last.flatMap ptCells) wy.drew #[.int .i64 ax, .int .i64 ay, .int .i64 bx, .int .i64 by'] rfl (by simp [Value.oneCell']) rfl rfl rfl (by exact ND.out) hzh (by omega) (by omega) (by decide) ?_
                    intro A6 c6 w6 hown6 hb6 hg6
                    have e6 := blk_keep hg6 (ND.out.alloc _) ((alloc_old _ _ (lt_of_block GBD.out)).trans GBD.out) pt_sl
                    have hc6 := (cell_of_row w6 go ps.length _ _ _ e6).trans ((cell_of_row wy go ps.length _ _ _ GB2.out).symm.trans hcr2)
                    have hf6 := free_blk e6 ps.length
                    (refine hK.out _ _ (But.of_grown hg6 (by intro r hr; exact .inl (by simpa [Value.ownBlock] using hr.symm))) (fun hHeld2 => ?_); clear hK K hHeld; have hHeld := hHeld2; clear hHeld2; try simp only [Act.put, List.getElem_toArray, List.getElem_cons_zero, List.getElem_cons_succ, List.setIfInBounds_toArray, List.set_cons_zero, List.set_cons_succ])
                    (refine wpAnyH_take (i := 12) (oi := _) (v := ?_) rfl (by kernel_rfl) (by kernel_rfl) (by kernel_rfl) (fun _ _ _ h => h) (Or.inl ⟨?_, ?_⟩) (by assumption) ?_; rotate_left; (focus (first | rfl | (simp [Region.wanted, yielded]; done))); (focus (intro w hSw; (try dsimp only at hSw); go_simp; all_goals (with_reducible rfl))); try simp only [Act.put, List.getElem_toArray, List.getElem_cons_zero, List.getElem_cons_succ, List.setIfInBounds_toArray, List.set_cons_zero, List.set_cons_succ])
                    (refine wpAnyH_ready (rs := [13]) (by kernel_rfl) (by simp) ?_; refine AllReadyH.cons (o := _) rfl (fun K hK => ?_) AllReadyH.nil; go_simp)
                    (refine hK.out _ _ (But.set (p := ⟨go, ps.length, none⟩) hHeld (.inr rfl) (.slice A6 (last.length + 2) c6)) (fun hHeld2 => ?_); clear hK K hHeld; have hHeld := hHeld2; clear hHeld2; try simp only [Act.put, List.getElem_toArray, List.getElem_cons_zero, List.getElem_cons_succ, List.setIfInBounds_toArray, List.set_cons_zero, List.set_cons_succ])
                    (refine wpAnyH_done (by kernel_rfl) ?_ _; refine NoPanic.normal ?_)
                    clear hHeld
                    go_wp2_with fail
                    have hs6 := hb6.size
                    simp at hs6
                    have hPn : (ps ++ [last]).length = ps.length + 1 := by simp
                    have RY2 : RS wy.drew w2.heap.size hi (.slice (some ⟨go, 0, none⟩) (ps.length + 1) c5) vs (ps ++ [last]) := by
                      have := RY'.out.below (Below.refl wy.heap.size wy).drew
                      rwa [hPn] at this
                    have hbase := RY'.out.hb
                    have hgb := (own_blk RY'.out.out).1
                    have BEL : Below w2.heap.size w2 w6 := (DY.out.drew).trans (hb6.mono hbase)
                    exact ⟨⟨k + 1, hi, vs.set ps.length (.slice A6 (last.length + 2) c6), ps ++ [last ++ [(ax, ay), (bx, by')]], by omega, .inl (by omega), by go_num, Lib.hid (RY2.grow rfl HVL.out hown6 hg6 (by exact hs6)), Lib.hid (htot.out.trans STEP.out), NEXT, Lib.hid (hpl.out.grow _ _), Lib.hid (BEL.setCell (by exact hgb) _)⟩, by simp [intOf]; omega⟩
        · have HTOT : Hid (clipL l ⟨x0, y0, x1, y1⟩ = P.flatMap Cl.fin) := Lib.hid (by rw [HQ.out, htot.out, refRest_end (by have := HN.out; omega)])
          have PZ := Lib.hid (hrs.out.pz rfl)
          have hPl : P.length ≤ 1001 := by have := hpl.out.1; omega
          have hPx : Hid (∀ p ∈ P, p.length ≤ 2002) := Lib.hid (fun p hp => by have := hpl.out.2 p hp; omega)
          have BR := Lib.hid (bq.out.trans (hbel.out.mono bq.out.size))
          clear hrs htot hne hpl hbel HNL HQ
          go_wp2_with fail
          go_loopw [11, 12] (fun v i w3 => ∃ (j : Nat) (vs2 : List Value), j ≤ P.length ∧ i = .int .i64 j ∧ Hid (OS w3 wr.heap.size v vs2 ((P.take j).flatMap Cl.fin)) ∧ Hid (Below wr.heap.size wr w3)) (fun _ i _ => P.length - (intOf i).toNat)
          case atStart => exact ⟨0, [], Nat.zero_le _, rfl, Lib.hid (OS.nil_ _ _), Lib.hid (Below.refl _ _)⟩
          case round =>
            obtain ⟨j, vs2, hj, rfl, hos, hb3⟩ := hrel
            obtain ⟨A11, c11, rfl, -, -⟩ := own_form hos.out.out
            by_cases hjl : j < P.length
            · obtain ⟨bp, offp, Ai, ci, rfl, hbp, hcp, hrp, -, -⟩ := (PZ.out.below hb3.out).at_ hjl
              have hxl : P[j].length ≤ 2002 := hPx.out _ (List.getElem_mem hjl)
              have DFc := Lib.hid (rdiff_any Ai ci P[j] _ (by omega) hrp)
              have FT := Lib.hid (fin_take hjl)
              have hFl : ((P.take j).flatMap Cl.fin).length ≤ 1001 := by have h1 := finp_len (P.take j); rw [List.length_take] at h1; omega
              have hz3 := Lib.hid hb3.out.size
              clear hrp
              generalize P[j] = x at *
              generalize (P.take j).flatMap Cl.fin = FF at *
              go_wp2_with fail
              refine DFc.out.mono ?_
              rintro e w4 ⟨v4, rfl, own4, bel4⟩
              obtain ⟨A4, c4, rfl, -, -⟩ := own_form own4
              have OS4 := Lib.hid (hos.out.below bel4)
              have D4 := Lib.hid (hb3.out.trans (bel4.mono hb3.out.size))
              by_cases hone : 1 < (Cl.cmpF x).length
              · have EF := Lib.hid (fin_yes hone)
                have PA := Lib.hid (PartAt.of_own (top := w4.heap.size) own4 (by omega) hz3.out (Nat.le_refl _))
                have d1 : decide (1 < (Cl.cmpF x).length) = true := by simpa using hone
                have d2 : decide ((1 : Int) < ((Cl.cmpF x).length : Int)) = true := by simp; omega
                have hz4 := D4.out.size
                generalize Cl.cmpF x = y at *
                clear own4 bel4 hcp hbp DFc hone
                go_wp2_with (at_builtin; refine wpList_app1G rfl (.tmp 91) (.tmp 93) 29 rfl Try.underlying29 info_pts rfl (by decide) _ _ _ _ _ _ rfl (by simp [Value.oneCell']) rfl rfl (by simp) OS4.out.out hz4 (by omega) (by omega) ?_; intro v6 w6 hown6 hb6 hg6)
                have hs6 := hb6.size
                (try simp at hs6)
                exact ⟨⟨j + 1, vs2 ++ [.slice A4 y.length c4], hjl, by go_num, Lib.hid (by rw [FT.out, EF.out]; exact OS4.out.push PA.out hown6 hg6 (by omega)), Lib.hid (D4.out.trans hb6)⟩, by simp [intOf]; omega⟩
              · have EF := Lib.hid (fin_no (l := x) (by omega))
                have d1 : decide (1 < (Cl.cmpF x).length) = false := by simpa using hone
                have d2 : decide ((1 : Int) < ((Cl.cmpF x).length : Int)) = false := by simp; omega
                clear own4 bel4 hcp hbp DFc hone
                go_wp2_with fail
                exact ⟨⟨j + 1, vs2, hjl, by go_num, Lib.hid (by rw [FT.out, EF.out, List.append_nil]; exact OS4.out), D4⟩, by simp [intOf]; omega⟩
            · have ef : P.take j = P := List.take_of_length_le (by omega)
              rw [ef] at hos ⊢
              have BF := Lib.hid (BR.out.trans (hb3.out.mono BR.out.size))
              have FIN := Lib.hid (OS.post (w := w) hos.out BR.out.size BF.out)
              rw [← HTOT.out] at FIN
              clear ef hos PZ
              go_wp2_with fail
              go_ret
              first | exact FIN.out | (rw [← HTOT.out]; exact FIN.out)
end Go.Proofs.Ytdiknijbjmhacaa
