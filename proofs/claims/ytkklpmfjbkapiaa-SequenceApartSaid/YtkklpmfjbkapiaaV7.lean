/- WALK: SequenceApart. -/
import Derived.Test.YtkklpmfjbkapiaaV1b
namespace Go.Proofs.Ytkklpmfjbkapiaa
open Go.RowKit

set_option maxRecDepth 100000 in
set_option maxHeartbeats 6400000 in
theorem walk_SequenceApart_ (hm : MatchSaid) (hh : HeadSaid)  (Ap : Option Addr) (np cp : Nat) (p : List ByteArray) (Aq : Option Addr) (nq cq : Nat) (q : List ByteArray) (Ar : Option Addr) (nr cr : Nat) (r : List ByteArray) (Af : Option Addr) (nf cf : Nat) (f : List ByteArray) (Al : Option Addr) (nl cl : Nat) (l : List ByteArray)  (w : World) (sp : Sl w Ap np cp p) (sq : Sl w Aq nq cq q) (sr : Sl w Ar nr cr r) (sf : Sl w Af nf cf f) (sl : Sl w Al nl cl l) :
    Calls Try.prog 8 #[.slice Ap np cp, .slice Aq nq cq, .slice Ar nr cr, .slice Af nf cf, .slice Al nl cl] w fun e w' => e = .returned (.bool true) ∧ Below w.heap.size w w' := by
  have HM := Lib.hid hm; clear hm; have HH := Lib.hid hh; clear hh
  have Sp := Lib.hid sp; clear sp
  have Sqq := Lib.hid sq; clear sq
  have Sr := Lib.hid sr; clear sr
  have Sf := Lib.hid sf; clear sf
  have Sl := Lib.hid sl; clear sl
  have B0 : Hid (Below w.heap.size w w) := Below.refl _ _
  go_enter Try.func8, Try.ntmps8
  go_wp2_with fail
  refine (HH.out _).mono ?_
  rintro e w1 ⟨rfl, hb1⟩
  have b1 := Lib.hid hb1; have B1 : Hid (Below w.heap.size w w1) := below_chain B0.out hb1 B0.out.size; clear hb1
  by_cases h10p : 10 < np
  · go_wp2; go_ret; exact ⟨rfl, B1.out⟩
  by_cases h10q : 10 < nq
  · go_wp2; go_ret; exact ⟨rfl, B1.out⟩
  by_cases h10r : 10 < nr
  · go_wp2; go_ret; exact ⟨rfl, B1.out⟩
  by_cases h10f : 10 < nf
  · go_wp2; go_ret; exact ⟨rfl, B1.out⟩
  by_cases h10l : 10 < nl
  · go_wp2; go_ret; exact ⟨rfl, B1.out⟩
  have hlp : p.length ≤ 10 := by have := Sp.out.1; omega
  have hlq : q.length ≤ 10 := by have := Sqq.out.1; omega
  have hlr : r.length ≤ 10 := by have := Sr.out.1; omega
  have hlf : f.length ≤ 10 := by have := Sf.out.1; omega
  have hll : l.length ≤ 10 := by have := Sl.out.1; omega
  go_wp2_with fail
  refine (joined3_sl Ap Aq Ar _ _ _ _ _ _ _ _ _ _ ((Sp.out).below b1.out) ((Sqq.out).below b1.out) ((Sr.out).below b1.out) (by omega) (by omega) (by omega)).mono ?_
  rintro e w2 ⟨Ax1, nx1, cx1, rfl, sx1, hb2⟩
  have Sx1 := Lib.hid sx1; clear sx1
  have b2 := Lib.hid hb2; have B2 : Hid (Below w.heap.size w w2) := below_chain B1.out hb2 B1.out.size; clear hb2
  go_wp2_with fail
  refine (few_sl Ax1 _ _ _ _ (Sx1.out)).mono ?_
  rintro e w' ⟨hF, rfl⟩
  rcases hF.cases_ with ⟨rfl, hfx1⟩ | rfl <;> clear hF
  rotate_left
  · go_wp2; go_ret; exact ⟨rfl, B2.out⟩
  go_wp2_with fail
  refine (joined2_sl Af Al _ _ _ _ _ _ _ (((Sf.out).below b1.out).below b2.out) (((Sl.out).below b1.out).below b2.out) (by omega) (by omega)).mono ?_
  rintro e w3 ⟨Ax2, nx2, cx2, rfl, sx2, hb3⟩
  have Sx2 := Lib.hid sx2; clear sx2
  have b3 := Lib.hid hb3; have B3 : Hid (Below w.heap.size w w3) := below_chain B2.out hb3 B2.out.size; clear hb3
  go_wp2_with fail
  refine (few_sl Ax2 _ _ _ _ (Sx2.out)).mono ?_
  rintro e w' ⟨hF, rfl⟩
  rcases hF.cases_ with ⟨rfl, hfx2⟩ | rfl <;> clear hF
  rotate_left
  · go_wp2; go_ret; exact ⟨rfl, B3.out⟩
  by_cases hq0 : nq = 0
  · have hq1 : ((nq : Int) == 0) = true := by simp [hq0]
    have HQ0 := Lib.hid hq0; clear hq0; go_wp2; go_ret; exact ⟨rfl, B3.out⟩
  have hq1 : ((nq : Int) == 0) = false := by simp; omega
  have HQ0 := Lib.hid hq0; clear hq0
  go_wp2_with fail
  refine (joined3_sl Ap Aq Ar _ _ _ _ _ _ _ _ _ _ ((((Sp.out).below b1.out).below b2.out).below b3.out) ((((Sqq.out).below b1.out).below b2.out).below b3.out) ((((Sr.out).below b1.out).below b2.out).below b3.out) (by omega) (by omega) (by omega)).mono ?_
  rintro e w4 ⟨Ax3, nx3, cx3, rfl, sx3, hb4⟩
  have Sx3 := Lib.hid sx3; clear sx3
  have b4 := Lib.hid hb4; have B4 : Hid (Below w.heap.size w w4) := below_chain B3.out hb4 B3.out.size; clear hb4
  go_wp2_with fail
  refine (different_sl Ax3 _ _ _ _ (Sx3.out)).mono ?_
  rintro e w5 ⟨hF, hd⟩; have hb5 : Below w4.heap.size w4 w5 := hd.below _; clear hd
  have b5 := Lib.hid hb5; have B5 : Hid (Below w.heap.size w w5) := below_chain B4.out hb5 B4.out.size; clear hb5
  rcases hF.cases_ with ⟨rfl, hnd⟩ | rfl <;> clear hF
  rotate_left
  · go_wp2; go_ret; exact ⟨rfl, B5.out⟩
  have HND := Lib.hid hnd; clear hnd
  go_wp2_with fail
  go_loop [12] (fun i => ∃ k : Nat, k ≤ nf ∧ i = .int .i64 k ∧ Hid (∀ j (_ : j < k) (h : j < f.length), f[j] ∉ q ∧ f[j] ∉ r)) (fun i => nf - (intOf i).toNat)
  case atStart => exact ⟨0, Nat.zero_le _, rfl, Lib.hid (by intro j h; omega)⟩
  case round =>
    obtain ⟨k, hk, rfl, hno⟩ := hrel
    by_cases hlt : k < nf
    · have hk9 : nf ≤ 10 := by omega
      have hll : k < f.length := by have := Sf.out.1; omega
      obtain ⟨gb, off, rfl, hgb, hc⟩ := (((((((Sf.out).below b1.out).below b2.out).below b3.out).below b4.out).below b5.out).2.2.2).map_at hll
      obtain ⟨v, hv⟩ : ∃ v, v = f[k] := ⟨_, rfl⟩; rw [← hv] at hc; have HV := Lib.hid hv; clear hv
      rcases hi1 : inF q v with _ | _
      · have HI1 := Lib.hid hi1; clear hi1
        go_wp2_with fail
        refine (in_sl false Aq _ _ _ _ _ ((((((Sqq.out).below b1.out).below b2.out).below b3.out).below b4.out).below b5.out) HI1.out).mono ?_
        rintro e w' ⟨rfl, rfl⟩
        rcases hi2 : inF r v with _ | _
        · have HI2 := Lib.hid hi2; clear hi2
          go_wp2_with fail
          refine (in_sl false Ar _ _ _ _ _ ((((((Sr.out).below b1.out).below b2.out).below b3.out).below b4.out).below b5.out) HI2.out).mono ?_
          rintro e w' ⟨rfl, rfl⟩
          rcases hi3 : inF l v with _ | _
          · have HI3 := Lib.hid hi3; clear hi3
            go_wp2_with fail
            refine (in_sl false Al _ _ _ _ _ ((((((Sl.out).below b1.out).below b2.out).below b3.out).below b4.out).below b5.out) HI3.out).mono ?_
            rintro e w' ⟨rfl, rfl⟩
            go_wp2
            go_round
            case rel => exact ⟨k + 1, hlt, by go_num, Lib.hid (fun j hj h => by
              rcases Nat.lt_succ_iff_lt_or_eq.1 hj with h1 | rfl
              · exact hno.out j h1 h
              · rw [← HV.out]; exact ⟨not_inF HI1.out, not_inF HI2.out⟩)⟩
            case measure => simp [intOf]; omega
          · have HI3 := Lib.hid hi3; clear hi3
            go_wp2_with fail
            refine (in_sl true Al _ _ _ _ _ ((((((Sl.out).below b1.out).below b2.out).below b3.out).below b4.out).below b5.out) HI3.out).mono ?_
            rintro e w' ⟨rfl, rfl⟩
            go_wp2; go_ret; exact ⟨rfl, B5.out⟩
        · have HI2 := Lib.hid hi2; clear hi2
          go_wp2_with fail
          refine (in_sl true Ar _ _ _ _ _ ((((((Sr.out).below b1.out).below b2.out).below b3.out).below b4.out).below b5.out) HI2.out).mono ?_
          rintro e w' ⟨rfl, rfl⟩
          go_wp2; go_ret; exact ⟨rfl, B5.out⟩
      · have HI1 := Lib.hid hi1; clear hi1
        go_wp2_with fail
        refine (in_sl true Aq _ _ _ _ _ ((((((Sqq.out).below b1.out).below b2.out).below b3.out).below b4.out).below b5.out) HI1.out).mono ?_
        rintro e w' ⟨rfl, rfl⟩
        go_wp2; go_ret; exact ⟨rfl, B5.out⟩
    · have HNF : Hid (∀ x ∈ f, x ∉ q ∧ x ∉ r) := Lib.hid (fun x hx => by obtain ⟨j, hj, rfl⟩ := List.mem_iff_getElem.1 hx; exact hno.out j (by have := Sf.out.1; omega) hj)
      clear hno
      go_wp2_with fail
      go_loop [13] (fun i => ∃ k : Nat, k ≤ nl ∧ i = .int .i64 k) (fun i => nl - (intOf i).toNat)
      case atStart => exact ⟨0, Nat.zero_le _, rfl⟩
      case round =>
        obtain ⟨k, hk, rfl⟩ := hrel
        by_cases hlt : k < nl
        · have hk9 : nl ≤ 10 := by omega
          have hll : k < l.length := by have := Sl.out.1; omega
          obtain ⟨gb, off, rfl, hgb, hc⟩ := (((((((Sl.out).below b1.out).below b2.out).below b3.out).below b4.out).below b5.out).2.2.2).map_at hll
          obtain ⟨v, hv⟩ : ∃ v, v = l[k] := ⟨_, rfl⟩; rw [← hv] at hc; have HV := Lib.hid hv; clear hv
          rcases hi1 : inF q v with _ | _
          · have HI1 := Lib.hid hi1; clear hi1
            go_wp2_with fail
            refine (in_sl false Aq _ _ _ _ _ ((((((Sqq.out).below b1.out).below b2.out).below b3.out).below b4.out).below b5.out) HI1.out).mono ?_
            rintro e w' ⟨rfl, rfl⟩
            rcases hi2 : inF p v with _ | _
            · have HI2 := Lib.hid hi2; clear hi2
              go_wp2_with fail
              refine (in_sl false Ap _ _ _ _ _ ((((((Sp.out).below b1.out).below b2.out).below b3.out).below b4.out).below b5.out) HI2.out).mono ?_
              rintro e w' ⟨rfl, rfl⟩
              go_wp2
              go_round
              case rel => exact ⟨k + 1, hlt, by go_num⟩
              case measure => simp [intOf]; omega
            · have HI2 := Lib.hid hi2; clear hi2
              go_wp2_with fail
              refine (in_sl true Ap _ _ _ _ _ ((((((Sp.out).below b1.out).below b2.out).below b3.out).below b4.out).below b5.out) HI2.out).mono ?_
              rintro e w' ⟨rfl, rfl⟩
              go_wp2; go_ret; exact ⟨rfl, B5.out⟩
          · have HI1 := Lib.hid hi1; clear hi1
            go_wp2_with fail
            refine (in_sl true Aq _ _ _ _ _ ((((((Sqq.out).below b1.out).below b2.out).below b3.out).below b4.out).below b5.out) HI1.out).mono ?_
            rintro e w' ⟨rfl, rfl⟩
            go_wp2; go_ret; exact ⟨rfl, B5.out⟩
        · have HM2 := Lib.hid (Sq.mrg_apart p q r f l (apart_q Sqq.out HQ0.out) (apart_pq HND.out) (apart_pr HND.out) (fun x hx hf => (HNF.out x hf).1 hx) (fun x hx hf => (HNF.out x hf).2 hx))
          go_wp2_with fail
          refine (joined3_sl Ap Aq Ar _ _ _ _ _ _ _ _ _ _ ((((((Sp.out).below b1.out).below b2.out).below b3.out).below b4.out).below b5.out) ((((((Sqq.out).below b1.out).below b2.out).below b3.out).below b4.out).below b5.out) ((((((Sr.out).below b1.out).below b2.out).below b3.out).below b4.out).below b5.out) (by omega) (by omega) (by omega)).mono ?_
          rintro e w6 ⟨Ax4, nx4, cx4, rfl, sx4, hb6⟩
          have Sx4 := Lib.hid sx4; clear sx4
          have b6 := Lib.hid hb6; have B6 : Hid (Below w.heap.size w w6) := below_chain B5.out hb6 B5.out.size; clear hb6
          go_wp2_with fail
          refine (joined3_sl Af Aq Ar _ _ _ _ _ _ _ _ _ _ (((((((Sf.out).below b1.out).below b2.out).below b3.out).below b4.out).below b5.out).below b6.out) (((((((Sqq.out).below b1.out).below b2.out).below b3.out).below b4.out).below b5.out).below b6.out) (((((((Sr.out).below b1.out).below b2.out).below b3.out).below b4.out).below b5.out).below b6.out) (by omega) (by omega) (by omega)).mono ?_
          rintro e w7 ⟨Ax5, nx5, cx5, rfl, sx5, hb7⟩
          have Sx5 := Lib.hid sx5; clear sx5
          have b7 := Lib.hid hb7; have B7 : Hid (Below w.heap.size w w7) := below_chain B6.out hb7 B6.out.size; clear hb7
          go_wp2_with fail
          refine (joined3_sl Ap Aq Al _ _ _ _ _ _ _ _ _ _ ((((((((Sp.out).below b1.out).below b2.out).below b3.out).below b4.out).below b5.out).below b6.out).below b7.out) ((((((((Sqq.out).below b1.out).below b2.out).below b3.out).below b4.out).below b5.out).below b6.out).below b7.out) ((((((((Sl.out).below b1.out).below b2.out).below b3.out).below b4.out).below b5.out).below b6.out).below b7.out) (by omega) (by omega) (by omega)).mono ?_
          rintro e w8 ⟨Ax6, nx6, cx6, rfl, sx6, hb8⟩
          have Sx6 := Lib.hid sx6; clear sx6
          have b8 := Lib.hid hb8; have B8 : Hid (Below w.heap.size w w8) := below_chain B7.out hb8 B7.out.size; clear hb8
          go_wp2_with fail
          refine (merge_sl HM.out Ax4 Ax5 Ax6 _ _ _ _ _ _ _ _ _ _ (((Sx4.out).below b7.out).below b8.out) ((Sx5.out).below b8.out) (Sx6.out) (by simp; omega) (by simp; omega) (by simp; omega)).mono ?_
          intro e w9 hM; obtain ⟨Ax7, nx7, cx7, rfl, sx7, hb9⟩ := hM.some_ HM2.out; clear hM
          have Sx7 := Lib.hid sx7; clear sx7
          have b9 := Lib.hid hb9; have B9 : Hid (Below w.heap.size w w9) := below_chain B8.out hb9 B8.out.size; clear hb9
          go_wp2_with fail
          refine (joined3_sl Af Aq Al _ _ _ _ _ _ _ _ _ _ ((((((((((Sf.out).below b1.out).below b2.out).below b3.out).below b4.out).below b5.out).below b6.out).below b7.out).below b8.out).below b9.out) ((((((((((Sqq.out).below b1.out).below b2.out).below b3.out).below b4.out).below b5.out).below b6.out).below b7.out).below b8.out).below b9.out) ((((((((((Sl.out).below b1.out).below b2.out).below b3.out).below b4.out).below b5.out).below b6.out).below b7.out).below b8.out).below b9.out) (by omega) (by omega) (by omega)).mono ?_
          rintro e w10 ⟨Ax8, nx8, cx8, rfl, sx8, hb10⟩
          have Sx8 := Lib.hid sx8; clear sx8
          have b10 := Lib.hid hb10; have B10 : Hid (Below w.heap.size w w10) := below_chain B9.out hb10 B9.out.size; clear hb10
          go_wp2_with fail
          refine (same_sl true Ax7 Ax8 _ _ _ _ _ _ _ ((Sx7.out).below b10.out) (Sx8.out) (same_refl _)).mono ?_
          intro e w11 hS; obtain ⟨rfl, hd⟩ := hS; have hb11 : Below w10.heap.size w10 w11 := hd.below _; clear hd
          have b11 := Lib.hid hb11; have B11 : Hid (Below w.heap.size w w11) := below_chain B10.out hb11 B10.out.size; clear hb11
          go_wp2
          go_ret
          exact ⟨rfl, B11.out⟩
end Go.Proofs.Ytkklpmfjbkapiaa
