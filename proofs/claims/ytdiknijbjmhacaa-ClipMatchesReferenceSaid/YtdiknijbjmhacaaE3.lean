/- WALKS: clip.Line. -/
import Derived.Test.YtdiknijbjmhacaaE2
import Derived.Deep.DeepCutAuto
set_option linter.unusedSimpArgs false
set_option linter.unusedVariables false
namespace Go.Proofs.Ytdiknijbjmhacaa
open Go.RowKit
attribute [local go_sem ↓] Go.wp_at_zero Go.wp_at_succ

theorem lineNo_any (A : Option Addr) (n c : Nat) (l : List Cl.Pt) (x0 y0 x1 y1 : Int) (w : World) (hn : n = l.length) (hl : n ≤ 1000) (h : Rp w A l) (hw : Wf l) (hb : Wf [(x0, y0), (x1, y1)]) (hp : Cl.properB l ⟨x0, y0, x1, y1⟩ = false) :
    Calls Try.prog 12 #[.slice A n c, .agg #[.int .i64 x0, .int .i64 y0, .int .i64 x1, .int .i64 y1]] w (LinePost w (clipL l ⟨x0, y0, x1, y1⟩)) := by
  have PC : Hid (∀ w, Rp w A l → Calls Try.prog 26 #[.slice A n c, .agg #[.int .i64 x0, .int .i64 y0, .int .i64 x1, .int .i64 y1]] w fun e w' => e = .returned (.bool false) ∧ Below w.heap.size w w') := Lib.hid (fun w h => by have := proper_any A n c l x0 y0 x1 y1 w hn (by omega) h hw hb; rwa [hp] at this)
  have B0 : Hid (Below w.heap.size w (w.alloc (.cells #[.int .i64 x0, .int .i64 y0, .int .i64 x1, .int .i64 y1] 26))) := (Below.refl _ _).alloc (Nat.le_refl _) _
  have H := Lib.hid h; clear h hw hb hn
  have HP : Hid (clipL l ⟨x0, y0, x1, y1⟩ = []) := Lib.hid (by unfold clipL; rw [hp]; rfl)
  clear hp
  go_enter Try.func12, Try.ntmps12
  go_wp2_with fail
  refine (PC.out _ (H.out.below B0.out)).mono ?_
  rintro e w1 ⟨rfl, hb1⟩
  have b1 := Lib.hid hb1; clear hb1
  go_wp2
  go_ret
  refine ⟨_, [], rfl, ?_, ?_, B0.out.trans (b1.out.mono B0.out.size)⟩
  · rw [HP.out]; exact World.ownsRow_nil _ _ _ _
  · rw [HP.out]; exact PartsAt.nil_ _ _ _

set_option maxHeartbeats 40000000 in
theorem lineYes_any (A : Option Addr) (n c : Nat) (l : List Cl.Pt) (x0 y0 x1 y1 : Int) (w : World) (hn : n = l.length) (hl : n ≤ 1000) (h : Rp w A l) (hw : Wf l) (hb : Wf [(x0, y0), (x1, y1)]) (hp : Cl.properB l ⟨x0, y0, x1, y1⟩ = true) :
    Calls Try.prog 12 #[.slice A n c, .agg #[.int .i64 x0, .int .i64 y0, .int .i64 x1, .int .i64 y1]] w (LinePost w (clipL l ⟨x0, y0, x1, y1⟩)) := by
  have PC : Hid (∀ w, Rp w A l → Calls Try.prog 26 #[.slice A n c, .agg #[.int .i64 x0, .int .i64 y0, .int .i64 x1, .int .i64 y1]] w fun e w' => e = .returned (.bool true) ∧ Below w.heap.size w w') := Lib.hid (fun w h => by have := proper_any A n c l x0 y0 x1 y1 w hn (by omega) h hw hb; rwa [hp] at this)
  have B0 : Hid (Below w.heap.size w (w.alloc (.cells #[.int .i64 x0, .int .i64 y0, .int .i64 x1, .int .i64 y1] 26))) := (Below.refl _ _).alloc (Nat.le_refl _) _
  have X0 : Hid (BoxAt (w.alloc (.cells #[.int .i64 x0, .int .i64 y0, .int .i64 x1, .int .i64 y1] 26)) w.heap.size ⟨x0, y0, x1, y1⟩) := Lib.hid (heap_alloc_new w _)
  have H := Lib.hid h; clear h hb
  have HP : Hid (clipL l ⟨x0, y0, x1, y1⟩ = Cl.lineF l ⟨x0, y0, x1, y1⟩) := Lib.hid (by unfold clipL; rw [hp]; rfl)
  have HB : Hid (Cl.boxB ⟨x0, y0, x1, y1⟩ = true) := Lib.hid (by unfold Cl.properB at hp; rw [Bool.and_eq_true] at hp; exact hp.1)
  have HNR : Hid (∀ k (h : k < l.length), Cl.nearB l[k].1 l[k].2 = true) := Lib.hid (by unfold Cl.properB at hp; rw [Bool.and_eq_true, List.all_eq_true] at hp; exact fun k h => hp.2 _ (List.getElem_mem h))
  have HN := Lib.hid hn
  clear hp hw hn
  go_enter Try.func12, Try.ntmps12
  go_wp2_with fail
  refine (PC.out _ (H.out.below B0.out)).mono ?_
  rintro e w1 ⟨rfl, hb1⟩
  have X1 := Lib.hid (X0.out.below hb1 (by simp))
  have b1 := Lib.hid (B0.out.trans (hb1.mono B0.out.size)); clear hb1 B0 X0 PC
  have hlt1 : w.heap.size < w1.heap.size := lt_of_block X1.out
  go_wp2_with fail
  have bq : Hid (Below w.heap.size w ((w1.alloc (.cells #[.slice none 0 0] 29)).alloc (.cells #[.slice none 0 0] 22))) := Lib.hid (b1.out.trans (((Below.refl _ _).alloc (by omega) _).alloc (by simp; omega) _))
  have ST : Hid (RoundS w ((w1.alloc (.cells #[.slice none 0 0] 29)).alloc (.cells #[.slice none 0 0] 22)) (w1.heap.size + 2) (w1.heap.size + 1) w1.heap.size w.heap.size ⟨x0, y0, x1, y1⟩ l 1) := Lib.hid (by
    refine ⟨w1.heap.size + 2, .slice none 0 0, .slice none 0 0, [], [], [], ⟨⟨⟨?_, by omega, by omega, by simp, World.ownsRow_nil _ _ _ _, PartsAt.nil_ _ _ _⟩, ?_, by omega, by omega, World.ownsRow_nil _ _ _ _⟩, goK_start _ _, X1.out.below (((Below.refl _ _).alloc (Nat.le_refl _) _).alloc (by simp) _) hlt1, bq.out, by simp, by simp⟩⟩
    · exact (((Below.refl _ _).alloc (Nat.le_refl _) _).block _ (by simp)).trans (heap_alloc_new w1 _)
    · have := heap_alloc_new (w1.alloc (.cells #[.slice none 0 0] 29)) (.cells #[.slice none 0 0] 22)
      simpa using this)
  go_loopw [8] (fun i wr => ∃ k : Nat, 1 ≤ k ∧ (k ≤ n ∨ k = 1) ∧ i = .int .i64 k ∧ Hid (RoundS w wr (w1.heap.size + 2) (w1.heap.size + 1) w1.heap.size w.heap.size ⟨x0, y0, x1, y1⟩ l k)) (fun i _ => n - (intOf i).toNat)
  case atStart => exact ⟨1, Nat.le_refl _, .inr rfl, rfl, ST⟩
  case round =>
    obtain ⟨k, hk1, hk, rfl, hrs⟩ := hrel
    by_cases hlt : k < n
    · have hkl : k < l.length := by have := HN.out; omega
      obtain ⟨hi, vn, vo, now, vs, ps, R⟩ := hrs.out
      have RR := Lib.hid R; clear hrs ST bq
      have bx := R.box.c
      obtain ⟨q0, q1, q2, q3⟩ := bx
      simp only at q0 q1 q2 q3
      obtain ⟨b, off, rfl, hb, c0, c1⟩ := (H.out.below R.bel).at_ hkl
      obtain ⟨b', off', e', hb', d0, d1⟩ := (H.out.below R.bel).at_ (k := k - 1) (by omega)
      cases e'
      clear R
      obtain ⟨qx, hqx⟩ : ∃ x, x = l[k].1 := ⟨_, rfl⟩
      obtain ⟨qy, hqy⟩ : ∃ y, y = l[k].2 := ⟨_, rfl⟩
      obtain ⟨px, hpx⟩ : ∃ x, x = l[k - 1].1 := ⟨_, rfl⟩
      obtain ⟨py, hpy⟩ : ∃ y, y = l[k - 1].2 := ⟨_, rfl⟩
      rw [← hqx] at c0; rw [← hqy] at c1; rw [← hpx] at d0; rw [← hpy] at d1
      have NQ := Lib.hid (HNR.out k hkl)
      have NP := Lib.hid (HNR.out (k - 1) (by omega))
      rw [← hqx, ← hqy] at NQ; rw [← hpx, ← hpy] at NP
      have EQ : Hid ((qx, qy) = l[k]) := Lib.hid (by rw [hqx, hqy])
      have EP : Hid ((px, py) = l[k - 1]) := Lib.hid (by rw [hpx, hpy])
      clear hqx hqy hpx hpy
      have k4 : (k : Int) - 1 < (n : Int) := by omega
      have k5 : (k : Int) ≤ (n : Int) := by omega
      have k6 : k ≤ n := by omega
      have k7 : (1 : Int) ≤ (k : Int) := by omega
      have z0 : w.heap.size < wr.heap.size := RR.out.box.lt
      have z1 : w.heap.size < wr.heap.size + 1 := by omega
      have z2 : w.heap.size < wr.heap.size + 1 + 1 := by omega
      have y1' : b < wr.heap.size + 1 := by omega
      have y2' : b < wr.heap.size + 1 + 1 := by omega
      have k1 : (0 : Int) ≤ (k : Int) - 1 := by omega
      have k2 : ((k : Int) - 1).toNat = k - 1 := by omega
      have k3 : IntKind.i64.wrap ((k : Int) - 1) = (k : Int) - 1 := IntWalk.i64_in _ (by omega)
      go_upto_region 9 with fail
      go_cut [9, 10, 11] (fun s9 s10 s11 wx => ∃ p9 p10 : Nat, s9 = .pointer (some ⟨p9, 0, none⟩) ∧ s10 = .pointer (some ⟨p10, 0, none⟩) ∧ s11 = .bool (Cl.pcOk (px, py) (qx, qy) ⟨x0, y0, x1, y1⟩) ∧ wx.heap[p9]? = some (.cells #[.int .i64 (Cl.pcA (px, py) (qx, qy) ⟨x0, y0, x1, y1⟩).1, .int .i64 (Cl.pcA (px, py) (qx, qy) ⟨x0, y0, x1, y1⟩).2] 24 (0, 0)) ∧ wx.heap[p10]? = some (.cells #[.int .i64 (Cl.pcB (px, py) (qx, qy) ⟨x0, y0, x1, y1⟩).1, .int .i64 (Cl.pcB (px, py) (qx, qy) ⟨x0, y0, x1, y1⟩).2] 24 (0, 0)) ∧ Hid (wr.heap.size ≤ p9 ∧ wr.heap.size ≤ p10) ∧ Hid (Below wr.heap.size wr wx))
      case first =>
        have C0 : ∀ w', OldOf wr.drew w' → w'.cell? ⟨b, off + k * 2, none⟩ = some (.int .i64 qx) := fun w' h => h.c (by exact c0)
        have C1 : ∀ w', OldOf wr.drew w' → w'.cell? ⟨b, off + k * 2 + 1, none⟩ = some (.int .i64 qy) := fun w' h => h.c (by exact c1)
        have D0 : ∀ w', OldOf wr.drew w' → w'.cell? ⟨b, off + (k - 1) * 2, none⟩ = some (.int .i64 px) := fun w' h => h.c (by exact d0)
        have D1 : ∀ w', OldOf wr.drew w' → w'.cell? ⟨b, off + (k - 1) * 2 + 1, none⟩ = some (.int .i64 py) := fun w' h => h.c (by exact d1)
        have Q0 : ∀ w', OldOf wr.drew w' → w'.cell? ⟨w.heap.size, 0, none⟩ = some (.int .i64 x0) := fun w' h => h.c (by exact q0)
        have Q1 : ∀ w', OldOf wr.drew w' → w'.cell? ⟨w.heap.size, 1, none⟩ = some (.int .i64 y0) := fun w' h => h.c (by exact q1)
        have Q2 : ∀ w', OldOf wr.drew w' → w'.cell? ⟨w.heap.size, 2, none⟩ = some (.int .i64 x1) := fun w' h => h.c (by exact q2)
        have Q3 : ∀ w', OldOf wr.drew w' → w'.cell? ⟨w.heap.size, 3, none⟩ = some (.int .i64 y1) := fun w' h => h.c (by exact q3)
        have o0 : OldOf wr.drew wr.drew := OldOf.refl _
        clear c0 c1 d0 d1 q0 q1 q2 q3 z0 z1 z2 y1' y2'
        go_region_held3 (fun w' => OldOf wr.drew w') (first | assumption | exact OldOf.alloc (by assumption) _ | exact o2 | exact o2.alloc _ | exact (o2.alloc _).alloc _ | exact (o2.set (by simp) _).set (by simp) _ | (repeat (first | exact o2 | refine OldOf.alloc ?_ _ | refine OldOf.set ?_ (by simp) _))) ((go_at_call 29; refine (piece_any px py qx qy ⟨x0, y0, x1, y1⟩ _ NP.out NQ.out HB.out).mono ?_; rintro e w2 ⟨rfl, hb2⟩; have o2 := OldOf.below (by assumption) hb2; have hc2 := (bcell hb2).1; have hf2 := (bcell hb2).2; have hs2 := hb2.size; simp at hs2; (first | (have hs8 := Nat.lt_of_succ_le hs2; first | (have hs9 := Nat.lt_of_succ_lt hs8) | skip) | skip)))
        all_goals (go_wp2_with fail; go_meet; refine ⟨_, _, rfl, rfl, rfl, ?_, ?_, ?_, ?_⟩)
        all_goals first
          | (refine Lib.hid (OldOf.undrew ?_); (repeat (first | exact o2 | refine OldOf.alloc ?_ _ | (refine OldOf.set ?_ ?hp _; case hp => (simp; done)))); done)
          | (refine Lib.hid ⟨?_, ?_⟩ <;> (first | exact Nat.le_refl _ | exact Nat.le_add_right _ _ | (have := hb2.size; simp at this; omega)); done)
          | (repeat (first
              | with_reducible refine (drew_heap _ _).trans ?_
              | ((with_reducible refine alloc_new' _ _ _ ?hn); case hn => (simp; done))
              | ((with_reducible refine (alloc_old _ _ ?ho).trans ?_); case ho => (first | (simp; done) | (have := hb2.size; simp at this ⊢; omega)))
              | with_reducible refine set_two (a := .int .i64 0) (b := .int .i64 0) ?_ _ _
              | ((with_reducible refine (blk_two _ _ _ _ _ ?hb).trans ?_); case hb => (first | (simp; done) | (have := hb2.size; simp at this; omega)))
              | ((with_reducible refine (Below.block hb2 _ ?hc).trans ?_); case hc => (simp; try omega))))
      case rest =>
        obtain ⟨p9, p10, rfl, rfl, rfl, f9, f10, hpp, hbx⟩ := hcut
        obtain ⟨wx, hwx⟩ : ∃ wx, wx = wc := ⟨_, rfl⟩; rw [← hwx] at f9 f10 hbx ⊢; clear hwx wc
        have F9 := Lib.hid f9; have F10 := Lib.hid f10; clear f9 f10
        have W3 := Lib.hid (RR.out.box.below hbx.out RR.out.box.lt)
        have bx := W3.out.c
        obtain ⟨q0, q1, q2, q3⟩ := bx
        simp only at q0 q1 q2 q3
        have e0 : wx.cell? ⟨b, off + (k - 1) * 2, none⟩ = some (.int .i64 px) := (hbx.out.cell (p := ⟨b, off + (k - 1) * 2, none⟩) hb).trans d0
        have e1 : wx.cell? ⟨b, off + (k - 1) * 2 + 1, none⟩ = some (.int .i64 py) := (hbx.out.cell (p := ⟨b, off + (k - 1) * 2 + 1, none⟩) hb).trans d1
        have D0 : ∀ w', OldOf wx.drew w' → w'.cell? ⟨b, off + (k - 1) * 2, none⟩ = some (.int .i64 px) := fun w' h => h.c (by exact e0)
        have D1 : ∀ w', OldOf wx.drew w' → w'.cell? ⟨b, off + (k - 1) * 2 + 1, none⟩ = some (.int .i64 py) := fun w' h => h.c (by exact e1)
        have Q0 : ∀ w', OldOf wx.drew w' → w'.cell? ⟨w.heap.size, 0, none⟩ = some (.int .i64 x0) := fun w' h => h.c (by exact q0)
        have Q1 : ∀ w', OldOf wx.drew w' → w'.cell? ⟨w.heap.size, 1, none⟩ = some (.int .i64 y0) := fun w' h => h.c (by exact q1)
        have Q2 : ∀ w', OldOf wx.drew w' → w'.cell? ⟨w.heap.size, 2, none⟩ = some (.int .i64 x1) := fun w' h => h.c (by exact q2)
        have Q3 : ∀ w', OldOf wx.drew w' → w'.cell? ⟨w.heap.size, 3, none⟩ = some (.int .i64 y1) := fun w' h => h.c (by exact q3)
        have o0 : OldOf wx.drew wx.drew := OldOf.refl _
        clear q0 q1 q2 q3 e0 e1 c0 c1 d0 d1 z0 z1 z2 y1' y2'
        rcases hin : Cl.inB (px, py) ⟨x0, y0, x1, y1⟩ with _ | _
        · have IN : Hid (∀ u, Calls Try.prog 30 #[.agg #[.int .i64 px, .int .i64 py], .agg #[.int .i64 x0, .int .i64 y0, .int .i64 x1, .int .i64 y1]] u fun e w' => e = .returned (.bool false) ∧ Below u.heap.size u w') := Lib.hid (fun u => by rw [← hin]; exact in_pt px py x0 y0 x1 y1 u)
          have HIN := Lib.hid hin; clear hin
          go_wp2_with fail
          go_region_held3 (fun w' => OldOf wx.drew w') (first | assumption | exact o2) ((go_at_call 30; refine (IN.out _).mono ?_; rintro e w3 ⟨rfl, hb3⟩; have o2 := OldOf.below (by assumption) hb3))
          have G9 := Lib.hid ((hb3.block _ (lt_of_block F9.out)).trans F9.out)
          have G10 := Lib.hid ((hb3.block _ (lt_of_block F10.out)).trans F10.out)
          have B3 : Hid (Below wr.heap.size wr w3) := Lib.hid (hbx.out.trans (Below.mono (show Below wx.heap.size wx w3 from ⟨hb3.os, hb3.tape, hb3.output, hb3.size, hb3.block⟩) hbx.out.size))
          clear D0 D1 Q0 Q1 Q2 Q3 o2 hb3 F9 F10
          have E1 := Lib.hid (end_any (w1.heap.size + 1) w1.heap.size (w1.heap.size + 2) hi wr.heap.size vn vo now vs ps w3 (RR.out.st.keep B3.out) RR.out.st.tops.1 RR.out.st.tops.2 (by have := RR.out.n1; omega) (by have := RR.out.n2; omega))
          have hzz : w.heap.size < w1.heap.size := hlt1
          go_wp2_with fail
          refine E1.out.mono ?_
          rintro e W5 ⟨rfl, ep, bt⟩
          have MID : Hid (MidS w W5 (w1.heap.size + 2) (w1.heap.size + 1) w1.heap.size w.heap.size ⟨x0, y0, x1, y1⟩ l k (px, py) (qx, qy)) := Lib.hid (by
            obtain ⟨vo2, vs2, st⟩ := ep
            exact mid_out RR.out hk1 hkl EP.out EQ.out HIN.out B3.out st bt (by omega) (by omega) (by omega) (by omega))
          have bz : wr.heap.size ≤ w3.heap.size := B3.out.size
          have G9 : Hid (W5.heap[p9]? = _) := Lib.hid ((bt.block _ (lt_of_block G9.out) (by unfold X4; have := hpp.out; have := RR.out.st.o.hh; have := RR.out.st.o.hb; omega)).trans G9.out)
          have G10 : Hid (W5.heap[p10]? = _) := Lib.hid ((bt.block _ (lt_of_block G10.out) (by unfold X4; have := hpp.out; have := RR.out.st.o.hh; have := RR.out.st.o.hb; omega)).trans G10.out)
          clear ep bt E1 IN
          rcases hok : Cl.pcOk (px, py) (qx, qy) ⟨x0, y0, x1, y1⟩ with _ | _
          · have NXT : Hid (RoundS w W5 (w1.heap.size + 2) (w1.heap.size + 1) w1.heap.size w.heap.size ⟨x0, y0, x1, y1⟩ l (k + 1)) := Lib.hid (by
              obtain ⟨hi, vn, vo, now, vs, ps, M⟩ := MID.out
              have e := M.eq
              unfold Cl.adP at e
              rw [hok] at e
              rw [if_neg (by simp), List.append_nil] at e
              exact ⟨hi, vn, vo, now, vs, ps, M.st, e, M.box, M.bel, by have := M.n1; omega, M.n2⟩)
            clear hok
            go_wp2_with fail
            exact ⟨⟨k + 1, by omega, .inl (by omega), by go_num, NXT⟩, by simp [intOf]; omega⟩
          · obtain ⟨hi5, vn5, vo5, now5, vs5, ps5, M⟩ := MID.out
            obtain ⟨A5, c5, rfl, -, -⟩ := own_form M.st.now
            have NXT : Hid (∀ v' w' cs, w'.ownsRow hi5 24 2 v' (now5.length + 2) (now5.flatMap ptCells ++ [.int .i64 (Cl.pcA (px, py) (qx, qy) ⟨x0, y0, x1, y1⟩).1, .int .i64 (Cl.pcA (px, py) (qx, qy) ⟨x0, y0, x1, y1⟩).2, .int .i64 (Cl.pcB (px, py) (qx, qy) ⟨x0, y0, x1, y1⟩).1, .int .i64 (Cl.pcB (px, py) (qx, qy) ⟨x0, y0, x1, y1⟩).2]) → Below hi5 W5 w' → (W5.alloc cs).grownBy w' (Value.slice A5 now5.length c5).ownBlock →
                RoundS w (w'.setCell ⟨w1.heap.size + 1, 0, none⟩ v') (w1.heap.size + 2) (w1.heap.size + 1) w1.heap.size w.heap.size ⟨x0, y0, x1, y1⟩ l (k + 1)) := Lib.hid (by
              intro v' w' cs ho hb' hg'
              have e := M.eq
              unfold Cl.adP at e
              rw [hok, if_pos rfl] at e
              have hh := M.st.o.hb
              refine ⟨hi5, v', vo5, now5 ++ [Cl.pcA (px, py) (qx, qy) ⟨x0, y0, x1, y1⟩, Cl.pcB (px, py) (qx, qy) ⟨x0, y0, x1, y1⟩], vs5, ps5, LineSt.mk1 ?_ ((hb'.block _ (by omega)).trans M.st.cn) M.st.ne M.st.ln ?_, e, ?_, ?_, ?_, M.n2⟩
              · refine M.st.o.keep2 hb' fun j hj hx => ?_
                refine (hg'.block j (by simp; omega) ?_).trans (alloc_old _ _ hj)
                intro e'
                refine hx ?_
                rcases M.st.now.2 with ⟨hv, _⟩ | ⟨g, cap, cur, hv, _, hgg, _⟩
                · rw [hv] at e'; simp [Value.ownBlock] at e'
                · rw [hv] at e'; simp [Value.ownBlock] at e'
                  subst e'; exact ⟨_, hgg⟩
              · rw [List.length_append, List.flatMap_append]
                simpa [ptCells] using ho
              · exact (Below.heap_setCell _ _ _ _ (by show w.heap.size ≠ w1.heap.size + 1; omega)).trans ((hb'.block _ (by omega)).trans M.box)
              · exact (M.bel.trans (hb'.mono (by omega))).setCell (by show w.heap.size ≤ w1.heap.size + 1; omega) _
              · rw [List.length_append]; have := M.n1; simp; omega)
            have hn5 := M.n1; have hh5 := M.st.o.hh; have hz5 := cell_of_one M.st.cn
            have HCN := Lib.hid M.st.cn
            have HM := Lib.hid M.st.now
            obtain ⟨g0, g1⟩ := cell_two G9.out
            obtain ⟨g2, g3⟩ := cell_two G10.out
            have hl5 : w1.heap.size + 1 < hi5 := by have := M.st.o.hb; omega
            have F2 : Hid (∀ w', Below hi5 W5 w' → w'.cell? ⟨w1.heap.size + 1, 0, none⟩ = some (.slice A5 now5.length c5) ∧ w'.frozen? ⟨w1.heap.size + 1, 0, none⟩ = false) := Lib.hid (fun w' hb => by
              have e1 := (hb.block _ hl5).trans HCN.out
              exact ⟨cell_of_one e1, by simp [World.frozen?, e1]⟩)
            clear M hok MID
            go_wp2_with (at_builtin; refine wpList_appB rfl (.tmp 49) (.tmp 52) 22 rfl Try.underlying22 info_pt rfl (by decide) hi5 _ _ 2 _ _ _ rfl (by simp [Value.oneCell']) rfl rfl (by simp) (by exact HM.out) (by exact hh5) (by omega) (by omega) ?_; intro v6 w6 hown6 hb6 hg6; obtain ⟨A6, c6, rfl, -, -⟩ := own_form hown6; obtain ⟨e1, e2⟩ := F2.out w6 hb6; have HO6 := Lib.hid hown6; have HB6 := Lib.hid hb6; have HG6 := Lib.hid hg6; clear hown6 hb6 hg6)
            exact ⟨⟨k + 1, by omega, .inl (by omega), by go_num, Lib.hid (NXT.out _ _ _ HO6.out HB6.out HG6.out)⟩, by simp [intOf]; omega⟩
        · have IN : Hid (∀ u, Calls Try.prog 30 #[.agg #[.int .i64 px, .int .i64 py], .agg #[.int .i64 x0, .int .i64 y0, .int .i64 x1, .int .i64 y1]] u fun e w' => e = .returned (.bool true) ∧ Below u.heap.size u w') := Lib.hid (fun u => by rw [← hin]; exact in_pt px py x0 y0 x1 y1 u)
          have HIN := Lib.hid hin; clear hin
          go_wp2_with fail
          go_region_held3 (fun w' => OldOf wx.drew w') (first | assumption | exact o2) ((go_at_call 30; refine (IN.out _).mono ?_; rintro e w3 ⟨rfl, hb3⟩; have o2 := OldOf.below (by assumption) hb3))
          obtain ⟨W5, hW5⟩ : ∃ W5, W5 = w3 := ⟨_, rfl⟩
          rw [← hW5] at o2 hb3 ⊢; clear hW5
          have G9 := Lib.hid ((hb3.block _ (lt_of_block F9.out)).trans F9.out)
          have G10 := Lib.hid ((hb3.block _ (lt_of_block F10.out)).trans F10.out)
          have B3 : Hid (Below wr.heap.size wr W5) := Lib.hid (hbx.out.trans (Below.mono (show Below wx.heap.size wx W5 from ⟨hb3.os, hb3.tape, hb3.output, hb3.size, hb3.block⟩) hbx.out.size))
          clear D0 D1 Q0 Q1 Q2 Q3 o2 hb3 F9 F10
          have MID : Hid (MidS w W5 (w1.heap.size + 2) (w1.heap.size + 1) w1.heap.size w.heap.size ⟨x0, y0, x1, y1⟩ l k (px, py) (qx, qy)) := Lib.hid (mid_in RR.out hk1 hkl EP.out EQ.out HIN.out B3.out)
          rcases hok : Cl.pcOk (px, py) (qx, qy) ⟨x0, y0, x1, y1⟩ with _ | _
          · have NXT : Hid (RoundS w W5 (w1.heap.size + 2) (w1.heap.size + 1) w1.heap.size w.heap.size ⟨x0, y0, x1, y1⟩ l (k + 1)) := Lib.hid (by
              obtain ⟨hi, vn, vo, now, vs, ps, M⟩ := MID.out
              have e := M.eq
              unfold Cl.adP at e
              rw [hok] at e
              rw [if_neg (by simp), List.append_nil] at e
              exact ⟨hi, vn, vo, now, vs, ps, M.st, e, M.box, M.bel, by have := M.n1; omega, M.n2⟩)
            clear hok
            go_wp2_with fail
            exact ⟨⟨k + 1, by omega, .inl (by omega), by go_num, NXT⟩, by simp [intOf]; omega⟩
          · obtain ⟨hi5, vn5, vo5, now5, vs5, ps5, M⟩ := MID.out
            obtain ⟨A5, c5, rfl, -, -⟩ := own_form M.st.now
            have NXT : Hid (∀ v' w' cs, w'.ownsRow hi5 24 2 v' (now5.length + 2) (now5.flatMap ptCells ++ [.int .i64 (Cl.pcA (px, py) (qx, qy) ⟨x0, y0, x1, y1⟩).1, .int .i64 (Cl.pcA (px, py) (qx, qy) ⟨x0, y0, x1, y1⟩).2, .int .i64 (Cl.pcB (px, py) (qx, qy) ⟨x0, y0, x1, y1⟩).1, .int .i64 (Cl.pcB (px, py) (qx, qy) ⟨x0, y0, x1, y1⟩).2]) → Below hi5 W5 w' → (W5.alloc cs).grownBy w' (Value.slice A5 now5.length c5).ownBlock →
                RoundS w (w'.setCell ⟨w1.heap.size + 1, 0, none⟩ v') (w1.heap.size + 2) (w1.heap.size + 1) w1.heap.size w.heap.size ⟨x0, y0, x1, y1⟩ l (k + 1)) := Lib.hid (by
              intro v' w' cs ho hb' hg'
              have e := M.eq
              unfold Cl.adP at e
              rw [hok, if_pos rfl] at e
              have hh := M.st.o.hb
              refine ⟨hi5, v', vo5, now5 ++ [Cl.pcA (px, py) (qx, qy) ⟨x0, y0, x1, y1⟩, Cl.pcB (px, py) (qx, qy) ⟨x0, y0, x1, y1⟩], vs5, ps5, LineSt.mk1 ?_ ((hb'.block _ (by omega)).trans M.st.cn) M.st.ne M.st.ln ?_, e, ?_, ?_, ?_, M.n2⟩
              · refine M.st.o.keep2 hb' fun j hj hx => ?_
                refine (hg'.block j (by simp; omega) ?_).trans (alloc_old _ _ hj)
                intro e'
                refine hx ?_
                rcases M.st.now.2 with ⟨hv, _⟩ | ⟨g, cap, cur, hv, _, hgg, _⟩
                · rw [hv] at e'; simp [Value.ownBlock] at e'
                · rw [hv] at e'; simp [Value.ownBlock] at e'
                  subst e'; exact ⟨_, hgg⟩
              · rw [List.length_append, List.flatMap_append]
                simpa [ptCells] using ho
              · exact (Below.heap_setCell _ _ _ _ (by show w.heap.size ≠ w1.heap.size + 1; omega)).trans ((hb'.block _ (by omega)).trans M.box)
              · exact (M.bel.trans (hb'.mono (by omega))).setCell (by show w.heap.size ≤ w1.heap.size + 1; omega) _
              · rw [List.length_append]; have := M.n1; simp; omega)
            have hn5 := M.n1; have hh5 := M.st.o.hh; have hz5 := cell_of_one M.st.cn
            have HCN := Lib.hid M.st.cn
            have HM := Lib.hid M.st.now
            obtain ⟨g0, g1⟩ := cell_two G9.out
            obtain ⟨g2, g3⟩ := cell_two G10.out
            have hl5 : w1.heap.size + 1 < hi5 := by have := M.st.o.hb; omega
            have F2 : Hid (∀ w', Below hi5 W5 w' → w'.cell? ⟨w1.heap.size + 1, 0, none⟩ = some (.slice A5 now5.length c5) ∧ w'.frozen? ⟨w1.heap.size + 1, 0, none⟩ = false) := Lib.hid (fun w' hb => by
              have e1 := (hb.block _ hl5).trans HCN.out
              exact ⟨cell_of_one e1, by simp [World.frozen?, e1]⟩)
            clear M hok MID
            go_wp2_with (at_builtin; refine wpList_appB rfl (.tmp 49) (.tmp 52) 22 rfl Try.underlying22 info_pt rfl (by decide) hi5 _ _ 2 _ _ _ rfl (by simp [Value.oneCell']) rfl rfl (by simp) (by exact HM.out) (by exact hh5) (by omega) (by omega) ?_; intro v6 w6 hown6 hb6 hg6; obtain ⟨A6, c6, rfl, -, -⟩ := own_form hown6; obtain ⟨e1, e2⟩ := F2.out w6 hb6; have HO6 := Lib.hid hown6; have HB6 := Lib.hid hb6; have HG6 := Lib.hid hg6; clear hown6 hb6 hg6)
            exact ⟨⟨k + 1, by omega, .inl (by omega), by go_num, Lib.hid (NXT.out _ _ _ HO6.out HB6.out HG6.out)⟩, by simp [intOf]; omega⟩
    · obtain ⟨hi, vn, vo, now, vs, ps, R⟩ := hrs.out
      have RR := Lib.hid R; clear R hrs
      clear ST bq
      have e1 := end_any (w1.heap.size + 1) w1.heap.size (w1.heap.size + 2) hi wr.heap.size vn vo now vs ps wr RR.out.st RR.out.st.tops.1 RR.out.st.tops.2 (by have := RR.out.n1; omega) (by have := RR.out.n2; omega)
      have E1 := Lib.hid e1; clear e1
      go_wp2_with fail
      refine E1.out.mono ?_
      rintro e w2 ⟨rfl, ep, bt⟩
      have EP := Lib.hid ep; have BT := Lib.hid bt; clear ep bt
      obtain ⟨vo2, vs2, st⟩ := EP.out
      have c2 := cell_of_one st.o.co
      have S2 := Lib.hid st; clear st
      go_wp2_with fail
      go_ret
      have eqq := RR.out.eq
      rw [goK_end (by have := HN.out; omega)] at eqq
      have bel2 : Below w.heap.size w w2 := RR.out.bel.trans (BT.out.below RR.out.bel.size (fun k hk => by unfold X4 at hk; omega))
      refine ⟨vo2, vs2, rfl, ?_, ?_, bel2⟩
      · rw [HP.out, eqq]; exact own_base S2.out.o.out (by omega)
      · rw [HP.out, eqq]; exact S2.out.o.parts.lower (by omega)
end Go.Proofs.Ytdiknijbjmhacaa
