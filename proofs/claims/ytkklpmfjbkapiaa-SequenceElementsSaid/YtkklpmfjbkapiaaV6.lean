/- WALK: SequenceElements. -/
import Derived.Test.YtkklpmfjbkapiaaV1b
namespace Go.Proofs.Ytkklpmfjbkapiaa
open Go.RowKit

theorem Sl.drewN {w : World} {A : Option Addr} {n c : Nat} {l : List ByteArray} (h : Sl w A n c l) (m : Nat) : Sl (w.drewN m) A n c l := ⟨h.1, h.2.1, h.2.2.1, h.2.2.2.drewN m⟩

set_option maxRecDepth 100000 in
set_option maxHeartbeats 6400000 in
theorem walk_SequenceElements_ (hm : MatchSaid) (hh : HeadSaid)  (Ab : Option Addr) (nb cb : Nat) (b : List ByteArray) (Ao : Option Addr) (no co : Nat) (o : List ByteArray) (At : Option Addr) (nt ct : Nat) (t : List ByteArray)  (w : World) (sb : Sl w Ab nb cb b) (so : Sl w Ao no co o) (st : Sl w At nt ct t) :
    Calls Try.prog 7 #[.slice Ab nb cb, .slice Ao no co, .slice At nt ct] w fun e w' => e = .returned (.bool true) ∧ Below w.heap.size w w' := by
  have HM := Lib.hid hm; clear hm; have HH := Lib.hid hh; clear hh
  have Sb := Lib.hid sb; clear sb
  have So := Lib.hid so; clear so
  have St := Lib.hid st; clear st
  have B0 : Hid (Below w.heap.size w w) := Below.refl _ _
  go_enter Try.func7, Try.ntmps7
  go_wp2_with fail
  refine (HH.out _).mono ?_
  rintro e w1 ⟨rfl, hb1⟩
  have b1 := Lib.hid hb1; have B1 : Hid (Below w.heap.size w w1) := below_chain B0.out hb1 B0.out.size; clear hb1
  go_wp2_with fail
  refine (few_sl Ab _ _ b _ ((Sb.out).below b1.out)).mono ?_
  rintro e w' ⟨hF, rfl⟩
  rcases hF.cases_ with ⟨rfl, hfb⟩ | rfl <;> clear hF
  rotate_left
  · go_wp2; go_ret; exact ⟨rfl, B1.out⟩
  go_wp2_with fail
  refine (few_sl Ao _ _ o _ ((So.out).below b1.out)).mono ?_
  rintro e w' ⟨hF, rfl⟩
  rcases hF.cases_ with ⟨rfl, hfo⟩ | rfl <;> clear hF
  rotate_left
  · go_wp2; go_ret; exact ⟨rfl, B1.out⟩
  go_wp2_with fail
  refine (few_sl At _ _ t _ ((St.out).below b1.out)).mono ?_
  rintro e w' ⟨hF, rfl⟩
  rcases hF.cases_ with ⟨rfl, hft⟩ | rfl <;> clear hF
  rotate_left
  · go_wp2; go_ret; exact ⟨rfl, B1.out⟩
  rcases hq : Sq.mrg b o t with _ | l
  · have HQ := Lib.hid hq; clear hq
    go_wp2_with fail
    refine (merge_sl HM.out Ab Ao At _ _ _ _ _ _ _ _ _ _ ((Sb.out).below b1.out) ((So.out).below b1.out) ((St.out).below b1.out) (by omega) (by omega) (by omega)).mono ?_
    intro e w2 hM; obtain ⟨rfl, hb2⟩ := hM.none_ HQ.out; clear hM
    have b2 := Lib.hid hb2; have B2 : Hid (Below w.heap.size w w2) := below_chain B1.out hb2 B1.out.size; clear hb2
    go_wp2_with fail
    refine (same_sl false Ab Ao _ _ _ _ _ _ _ (((Sb.out).below b1.out).below b2.out) (((So.out).below b1.out).below b2.out) (sameF_f (fun e => by have := HQ.out; rw [e, Sq.mrg_base] at this; cases this))).mono ?_
    intro e w3 hS; obtain ⟨rfl, hd⟩ := hS; have hb3 : Below w2.heap.size w2 w3 := hd.below _; clear hd
    have b3 := Lib.hid hb3; have B3 : Hid (Below w.heap.size w w3) := below_chain B2.out hb3 B2.out.size; clear hb3
    go_wp2_with fail
    refine (same_sl false Ab At _ _ _ _ _ _ _ ((((Sb.out).below b1.out).below b2.out).below b3.out) ((((St.out).below b1.out).below b2.out).below b3.out) (sameF_f (fun e => by have := HQ.out; rw [e, Sq.mrg_base'] at this; cases this))).mono ?_
    intro e w4 hS; obtain ⟨rfl, hd⟩ := hS; have hb4 : Below w3.heap.size w3 w4 := hd.below _; clear hd
    have b4 := Lib.hid hb4; have B4 : Hid (Below w.heap.size w w4) := below_chain B3.out hb4 B3.out.size; clear hb4
    go_wp2_with fail
    refine (same_sl false Ao At _ _ _ _ _ _ _ (((((So.out).below b1.out).below b2.out).below b3.out).below b4.out) (((((St.out).below b1.out).below b2.out).below b3.out).below b4.out) (sameF_f (fun e => by have := HQ.out; rw [e, Sq.mrg_both] at this; cases this))).mono ?_
    intro e w5 hS; obtain ⟨rfl, hd⟩ := hS; have hb5 : Below w4.heap.size w4 w5 := hd.below _; clear hd
    have b5 := Lib.hid hb5; have B5 : Hid (Below w.heap.size w w5) := below_chain B4.out hb5 B4.out.size; clear hb5
    go_wp2
    go_ret
    exact ⟨rfl, B5.out⟩
  · have HQ := Lib.hid hq; clear hq
    go_wp2_with fail
    refine (merge_sl HM.out Ab Ao At _ _ _ _ _ _ _ _ _ _ ((Sb.out).below b1.out) ((So.out).below b1.out) ((St.out).below b1.out) (by omega) (by omega) (by omega)).mono ?_
    intro e w2 hM; obtain ⟨Ax1, nx1, cx1, rfl, sx1, hb2⟩ := hM.some_ HQ.out; clear hM
    have Sx1 := Lib.hid sx1; clear sx1
    have b2 := Lib.hid hb2; have B2 : Hid (Below w.heap.size w w2) := below_chain B1.out hb2 B1.out.size; clear hb2
    have hm60 : nx1 ≤ 9223372036854775807 := by have := Sx1.out.2.1; have h2 := Sx1.out.2.2.1; omega
    go_wp2_with fail
    go_loop [10] (fun i => ∃ k : Nat, k ≤ nx1 ∧ i = .int .i64 k) (fun i => nx1 - (intOf i).toNat)
    case atStart => exact ⟨0, Nat.zero_le _, rfl⟩
    case round =>
      obtain ⟨k, hk, rfl⟩ := hrel
      by_cases hlt : k < nx1
      · have hll : k < l.length := by have := Sx1.out.1; omega
        obtain ⟨gb, off, rfl, hgb, hc⟩ := ((Sx1.out).2.2.2).map_at hll
        have hel := Sq.mrg_elems HQ.out _ (List.getElem_mem hll)
        obtain ⟨v, hv⟩ : ∃ v, v = l[k] := ⟨_, rfl⟩; rw [← hv] at hc hel; clear hv
        have HEL := Lib.hid hel; clear hel
        rcases hi1 : inF o v with _ | _
        · have HI1 := Lib.hid hi1; clear hi1
          have HI2 : Hid (inF t v = true) := Lib.hid ((inF_iff _ _).2 (HEL.out.resolve_left (not_inF HI1.out)))
          go_wp2_with fail
          refine (in_sl false Ao _ _ _ _ _ (((So.out).below b1.out).below b2.out) HI1.out).mono ?_
          rintro e w' ⟨rfl, rfl⟩
          go_wp2_with fail
          refine (in_sl true At _ _ _ _ _ (((St.out).below b1.out).below b2.out) HI2.out).mono ?_
          rintro e w' ⟨rfl, rfl⟩
          go_wp2
          go_round
          case rel => exact ⟨k + 1, hlt, by go_num⟩
          case measure => simp [intOf]; omega
        · have HI1 := Lib.hid hi1; clear hi1
          go_wp2_with fail
          refine (in_sl true Ao _ _ _ _ _ (((So.out).below b1.out).below b2.out) HI1.out).mono ?_
          rintro e w' ⟨rfl, rfl⟩
          go_wp2
          go_round
          case rel => exact ⟨k + 1, hlt, by go_num⟩
          case measure => simp [intOf]; omega
      · have hge : nx1 ≤ k := by omega
        go_wp2_with fail
        refine (common_sl HM.out Ab Ao _ _ _ _ _ _ _ (((Sb.out).below b1.out).below b2.out) (((So.out).below b1.out).below b2.out) (by omega) (by omega)).mono ?_
        rintro e w3 ⟨Ax2, nx2, cx2, rfl, sx2, hb3⟩
        have Sx2 := Lib.hid sx2; clear sx2
        have b3 := Lib.hid hb3; have B3 : Hid (Below w.heap.size w w3) := below_chain B2.out hb3 B2.out.size; clear hb3
        go_wp2_with fail
        refine (common_sl HM.out Ab At _ _ _ _ _ _ _ ((((Sb.out).below b1.out).below b2.out).below b3.out) ((((St.out).below b1.out).below b2.out).below b3.out) (by omega) (by omega)).mono ?_
        rintro e w4 ⟨Ax3, nx3, cx3, rfl, sx3, hb4⟩
        have Sx3 := Lib.hid sx3; clear sx3
        have b4 := Lib.hid hb4; have B4 : Hid (Below w.heap.size w w4) := below_chain B3.out hb4 B3.out.size; clear hb4
        go_wp2_with fail
        go_loopw [13] (fun i wr => ∃ k : Nat, k ≤ nb ∧ i = .int .i64 k ∧ Dr w4 wr) (fun i _ => nb - (intOf i).toNat)
        case atStart => exact ⟨0, Nat.zero_le _, rfl, dr0⟩
        case round =>
          obtain ⟨k, hk, rfl, md, rfl⟩ := hrel
          by_cases hlt : k < nb
          · have hkb : k < b.length := by have := Sb.out.1; omega
            have hnb : nb ≤ 30 := by have := Sb.out.1; omega
            have hcb : nb ≤ cb ∧ cb ≤ 9223372036854775807 := ⟨Sb.out.2.1, Sb.out.2.2.1⟩
            obtain ⟨hcb1, hcb2⟩ := hcb
            have SB := Lib.hid (((((Sb.out).below b1.out).below b2.out).below b3.out).below b4.out)
            obtain ⟨gb, off, rfl, hgb, hc⟩ := SB.out.2.2.2.map_at hkb
            obtain ⟨v, hv⟩ : ∃ v, v = b[k] := ⟨_, rfl⟩; rw [← hv] at hc; have HV := Lib.hid hv; clear hv
            have hk0 : (0 : Int) ≤ (k : Int) := by omega
            have hkc : (k : Int) ≤ (cb : Int) := by omega
            have hkl : (k : Int) < (nb : Int) := by omega
            have hk1 : (0 : Int) ≤ (k : Int) + 1 := by omega
            have hk2 : (k : Int) + 1 ≤ (nb : Int) := by omega
            have hk3 : ((k : Int) + 1).toNat = k + 1 := by omega
            have hk4 : IntKind.i64.wrap ((k : Int) + 1) = (k : Int) + 1 := IntWalk.i64_in _ (by omega)
            rcases Nat.eq_or_lt_of_le (show k + 1 ≤ cb by omega) with hcap | hcap
            · subst hcap
              obtain rfl : nb = k + 1 := by omega
              rcases ho1 : inF (b.take k) v with _ | _
              · have HO1 := Lib.hid ho1; clear ho1
                rcases ho2 : inF (b.drop (k + 1)) v with _ | _
                · have HO2 := Lib.hid ho2; clear ho2
                  go_wp2_with fail
                  go_quiet ((first | exact qs1 (in_head _ _ v (by exact SB.out) (by omega) HO1.out) | exact qs0 (in_head _ _ v (by exact SB.out) (by omega) HO1.out) | exact qs1 (in_tail _ _ _ _ v (by exact SB.out) (by omega) (by omega) (by first | exact .inr rfl | exact .inl (by omega)) HO2.out) | exact qs0 (in_tail _ _ _ _ v (by exact SB.out) (by omega) (by omega) (by first | exact .inr rfl | exact .inl (by omega)) HO2.out)))
                  rcases hx1 : inF (Sq.com b o) v with _ | _
                  · have HX1 := Lib.hid hx1; clear hx1
                    go_wp2_with fail
                    refine (in_sl false _ _ _ _ _ _ (Sl.drewN ((Sx2.out).below b4.out) _) HX1.out).mono ?_
                    rintro e w' ⟨rfl, rfl⟩
                    go_wp2
                    exact ⟨⟨k + 1, by omega, by go_num, by first | exact dr1 | exact dr2⟩, by simp [intOf] <;> omega⟩
                  · have HX1 := Lib.hid hx1; clear hx1
                    go_wp2_with fail
                    refine (in_sl true _ _ _ _ _ _ (Sl.drewN ((Sx2.out).below b4.out) _) HX1.out).mono ?_
                    rintro e w' ⟨rfl, rfl⟩
                    rcases hy1 : inF (Sq.com b t) v with _ | _
                    · have HY1 := Lib.hid hy1; clear hy1
                      go_wp2_with fail
                      refine (in_sl false _ _ _ _ _ _ (Sl.drewN (Sx3.out) _) HY1.out).mono ?_
                      rintro e w' ⟨rfl, rfl⟩
                      go_wp2
                      exact ⟨⟨k + 1, by omega, by go_num, by first | exact dr1 | exact dr2⟩, by simp [intOf] <;> omega⟩
                    · have HY1 := Lib.hid hy1; clear hy1
                      go_wp2_with fail
                      refine (in_sl true _ _ _ _ _ _ (Sl.drewN (Sx3.out) _) HY1.out).mono ?_
                      rintro e w' ⟨rfl, rfl⟩
                      have HL1 : Hid (inF l v = true) := Lib.hid ((inF_iff _ _).2 (Sq.mrg_once HQ.out (v := v) (i := k) (by rw [HV.out]; exact List.getElem?_eq_getElem hkb) (once_of hkb HV.out HO1.out HO2.out) ((inF_iff _ _).1 HX1.out) ((inF_iff _ _).1 HY1.out)))
                      go_wp2_with fail
                      refine (in_sl true _ _ _ _ _ _ (Sl.drewN (((Sx1.out).below b3.out).below b4.out) _) HL1.out).mono ?_
                      rintro e w' ⟨rfl, rfl⟩
                      go_wp2
                      exact ⟨⟨k + 1, by omega, by go_num, by first | exact dr1 | exact dr2⟩, by simp [intOf] <;> omega⟩
                · have HO2 := Lib.hid ho2; clear ho2
                  go_wp2_with fail
                  go_quiet ((first | exact qs1 (in_head _ _ v (by exact SB.out) (by omega) HO1.out) | exact qs0 (in_head _ _ v (by exact SB.out) (by omega) HO1.out) | exact qs1 (in_tail _ _ _ _ v (by exact SB.out) (by omega) (by omega) (by first | exact .inr rfl | exact .inl (by omega)) HO2.out) | exact qs0 (in_tail _ _ _ _ v (by exact SB.out) (by omega) (by omega) (by first | exact .inr rfl | exact .inl (by omega)) HO2.out)))
                  go_wp2
                  exact ⟨⟨k + 1, by omega, by go_num, by first | exact dr1 | exact dr2⟩, by simp [intOf] <;> omega⟩
              · have HO1 := Lib.hid ho1; clear ho1
                go_wp2_with fail
                go_quiet ((first | exact qs1 (in_head _ _ v (by exact SB.out) (by omega) HO1.out) | exact qs0 (in_head _ _ v (by exact SB.out) (by omega) HO1.out)))
                go_wp2
                exact ⟨⟨k + 1, by omega, by go_num, by first | exact dr1 | exact dr2⟩, by simp [intOf] <;> omega⟩
            · have hcap2 : (k : Int) + 1 < (cb : Int) := by omega
              rcases ho1 : inF (b.take k) v with _ | _
              · have HO1 := Lib.hid ho1; clear ho1
                rcases ho2 : inF (b.drop (k + 1)) v with _ | _
                · have HO2 := Lib.hid ho2; clear ho2
                  go_wp2_with fail
                  go_quiet ((first | exact qs1 (in_head _ _ v (by exact SB.out) (by omega) HO1.out) | exact qs0 (in_head _ _ v (by exact SB.out) (by omega) HO1.out) | exact qs1 (in_tail _ _ _ _ v (by exact SB.out) (by omega) (by omega) (by first | exact .inr rfl | exact .inl (by omega)) HO2.out) | exact qs0 (in_tail _ _ _ _ v (by exact SB.out) (by omega) (by omega) (by first | exact .inr rfl | exact .inl (by omega)) HO2.out)))
                  rcases hx1 : inF (Sq.com b o) v with _ | _
                  · have HX1 := Lib.hid hx1; clear hx1
                    go_wp2_with fail
                    refine (in_sl false _ _ _ _ _ _ (Sl.drewN ((Sx2.out).below b4.out) _) HX1.out).mono ?_
                    rintro e w' ⟨rfl, rfl⟩
                    go_wp2
                    exact ⟨⟨k + 1, by omega, by go_num, by first | exact dr1 | exact dr2⟩, by simp [intOf] <;> omega⟩
                  · have HX1 := Lib.hid hx1; clear hx1
                    go_wp2_with fail
                    refine (in_sl true _ _ _ _ _ _ (Sl.drewN ((Sx2.out).below b4.out) _) HX1.out).mono ?_
                    rintro e w' ⟨rfl, rfl⟩
                    rcases hy1 : inF (Sq.com b t) v with _ | _
                    · have HY1 := Lib.hid hy1; clear hy1
                      go_wp2_with fail
                      refine (in_sl false _ _ _ _ _ _ (Sl.drewN (Sx3.out) _) HY1.out).mono ?_
                      rintro e w' ⟨rfl, rfl⟩
                      go_wp2
                      exact ⟨⟨k + 1, by omega, by go_num, by first | exact dr1 | exact dr2⟩, by simp [intOf] <;> omega⟩
                    · have HY1 := Lib.hid hy1; clear hy1
                      go_wp2_with fail
                      refine (in_sl true _ _ _ _ _ _ (Sl.drewN (Sx3.out) _) HY1.out).mono ?_
                      rintro e w' ⟨rfl, rfl⟩
                      have HL1 : Hid (inF l v = true) := Lib.hid ((inF_iff _ _).2 (Sq.mrg_once HQ.out (v := v) (i := k) (by rw [HV.out]; exact List.getElem?_eq_getElem hkb) (once_of hkb HV.out HO1.out HO2.out) ((inF_iff _ _).1 HX1.out) ((inF_iff _ _).1 HY1.out)))
                      go_wp2_with fail
                      refine (in_sl true _ _ _ _ _ _ (Sl.drewN (((Sx1.out).below b3.out).below b4.out) _) HL1.out).mono ?_
                      rintro e w' ⟨rfl, rfl⟩
                      go_wp2
                      exact ⟨⟨k + 1, by omega, by go_num, by first | exact dr1 | exact dr2⟩, by simp [intOf] <;> omega⟩
                · have HO2 := Lib.hid ho2; clear ho2
                  go_wp2_with fail
                  go_quiet ((first | exact qs1 (in_head _ _ v (by exact SB.out) (by omega) HO1.out) | exact qs0 (in_head _ _ v (by exact SB.out) (by omega) HO1.out) | exact qs1 (in_tail _ _ _ _ v (by exact SB.out) (by omega) (by omega) (by first | exact .inr rfl | exact .inl (by omega)) HO2.out) | exact qs0 (in_tail _ _ _ _ v (by exact SB.out) (by omega) (by omega) (by first | exact .inr rfl | exact .inl (by omega)) HO2.out)))
                  go_wp2
                  exact ⟨⟨k + 1, by omega, by go_num, by first | exact dr1 | exact dr2⟩, by simp [intOf] <;> omega⟩
              · have HO1 := Lib.hid ho1; clear ho1
                go_wp2_with fail
                go_quiet ((first | exact qs1 (in_head _ _ v (by exact SB.out) (by omega) HO1.out) | exact qs0 (in_head _ _ v (by exact SB.out) (by omega) HO1.out)))
                go_wp2
                exact ⟨⟨k + 1, by omega, by go_num, by first | exact dr1 | exact dr2⟩, by simp [intOf] <;> omega⟩
          · go_wp2; go_ret; exact ⟨rfl, below_drewN B4.out _⟩
end Go.Proofs.Ytkklpmfjbkapiaa
