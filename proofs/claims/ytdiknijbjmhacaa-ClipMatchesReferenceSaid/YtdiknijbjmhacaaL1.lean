/- WALKS: a ring without neighbours that are equal, by the reference. -/
import Derived.Test.YtdiknijbjmhacaaH0
import Derived.Test.YtdiknijbjmhacaaD3
set_option linter.unusedSimpArgs false
set_option linter.unusedVariables false
namespace Go.Proofs.Ytdiknijbjmhacaa
open Go.RowKit
attribute [local go_sem ↓] Go.wp_at_zero Go.wp_at_succ

theorem rdiff_p (A : Option Addr) (n c : Nat) (l : List Cl.Pt) (w : World) (hn : n = l.length) (hl : n ≤ 1000000) (h : Rp w A l) :
    Calls Try.prog 21 #[.slice A n c] w (PtsPost w (Cl.cmpF l)) := by
  subst hn
  exact (rdiff_any A c l w hl h).mono fun e w' ⟨v, he, ho, hb⟩ => by
    obtain ⟨A', c', rfl, h1, h2⟩ := own_form ho
    exact ⟨A', c', he, rp_own ho, ⟨h1, h2⟩, hb⟩
set_option maxHeartbeats 8000000 in
theorem around_any (A : Option Addr) (n c : Nat) (R : List Cl.Pt) (w : World) (hn : n = R.length) (hl : n ≤ 64000) (h : Rp w A R) :
    Calls Try.prog 22 #[.slice A n c] w (PtsPost w (Cl.aroundF R)) := by
  have DF := Lib.hid (rdiff_p A n c R w hn (by omega) h)
  have HA : Hid (Cl.aroundF R = if (Cl.strip (Cl.cmpF R).length (Cl.cmpF R)).length < 3 then [] else Cl.strip (Cl.cmpF R).length (Cl.cmpF R)) := Lib.hid (by
    unfold Cl.aroundF
    simp only
    rw [strip_more (n := R.length) (Cl.cmp_len1 R)])
  have hCl : (Cl.cmpF R).length ≤ 64000 := by have := Cl.cmp_len1 R; omega
  generalize Cl.cmpF R = C at *
  clear h hn
  go_enter Try.func22, Try.ntmps22
  go_wp2_with fail
  refine DF.out.mono ?_
  rintro e w3 ⟨A3, c3, rfl, rp3, ⟨hc3, hm3⟩, bel3⟩
  have RP3 := Lib.hid rp3; have BL3 := Lib.hid bel3; clear rp3 bel3 DF
  unfold maxLen at hm3
  go_wp2_with fail
  go_loopw [0] (fun r wr => ∃ (x : List Cl.Pt) (f cc : Nat) (AA : Option Addr), x.length ≤ f ∧ f ≤ 64000 ∧ x.length ≤ cc ∧ cc ≤ 9223372036854775807 ∧ r = .slice AA x.length cc ∧ Hid (Cl.strip f x = Cl.strip C.length C) ∧ Hid (Rp wr AA x) ∧ Hid (Below w.heap.size w wr)) (fun r _ => lenOf r)
  case atStart => exact ⟨C, C.length, c3, A3, Nat.le_refl _, hCl, hc3, by omega, rfl, Lib.hid rfl, RP3, BL3⟩
  case round =>
    obtain ⟨x, f, cc, AA, hf, hf2, hxc, hcc, rfl, hst, hA, hB⟩ := hrel
    clear RP3 BL3
    by_cases h1 : 1 < x.length
    · have d1 : decide (1 < x.length) = true := by simpa using h1
      have d2 : decide ((1 : Int) < (x.length : Int)) = true := by simp; omega
      obtain ⟨b, off, rfl, hb, c0, c1⟩ := hA.out.at_ (k := 0) (by omega)
      obtain ⟨b', off', e', hb', q0, q1⟩ := hA.out.at_ (k := x.length - 1) (by omega)
      cases e'
      have i1 : (0 : Int) ≤ (x.length : Int) - 1 := by omega
      have i2 : ((x.length : Int) - 1).toNat = x.length - 1 := by omega
      have i3 : IntKind.i64.wrap ((x.length : Int) - 1) = (x.length : Int) - 1 := IntWalk.i64_in _ (by omega)
      have HE : Hid ((1 < x.length ∧ x.head? = x.getLast?) ↔ x[0] = x[x.length - 1]) := Lib.hid (by
        rw [List.head?_eq_getElem?, List.getLast?_eq_getElem?, List.getElem?_eq_getElem (by omega), List.getElem?_eq_getElem (by omega)]
        simp [h1])
      rw [Nat.zero_mul, Nat.add_zero] at c0 c1
      obtain ⟨fx, hfx⟩ : ∃ v, v = x[0].1 := ⟨_, rfl⟩
      obtain ⟨fy, hfy⟩ : ∃ v, v = x[0].2 := ⟨_, rfl⟩
      obtain ⟨lx, hlx⟩ : ∃ v, v = x[x.length - 1].1 := ⟨_, rfl⟩
      obtain ⟨ly, hly⟩ : ∃ v, v = x[x.length - 1].2 := ⟨_, rfl⟩
      rw [← hfx] at c0; rw [← hfy] at c1; rw [← hlx] at q0; rw [← hly] at q1
      have DEC : Hid ((1 < x.length ∧ x.head? = x.getLast?) ↔ (fx = lx ∧ fy = ly)) := Lib.hid (by
        rw [HE.out, hfx, hfy, hlx, hly]; exact Prod.ext_iff)
      clear hfx hfy hlx hly HE
      by_cases ex : fx = lx
      · have ex' : (fx == lx) = true := by simpa using ex
        by_cases ey : fy = ly
        · have ey' : (fy == ly) = true := by simpa using ey
          have GO := Lib.hid (strip_go (n := f - 1) (DEC.out.2 ⟨ex, ey⟩))
          clear ex ey
          have hd : x.dropLast.length = x.length - 1 := List.length_dropLast
          have hcut : ¬ cc = x.length - 1 := by omega
          have HD : Hid (Rp wr (some ⟨b, off, none⟩) x.dropLast) := Lib.hid (by
            have := Rp.pre2 hA.out (x.length - 1)
            rwa [← List.dropLast_eq_take] at this)
          have HD2 := Lib.hid hd; clear hd
          go_wp2_with fail
          go_quiet (fail)
          go_wp2_with fail
          refine ⟨⟨x.dropLast, f - 1, cc, some ⟨b, off, none⟩, by rw [HD2.out]; omega, by omega, by rw [HD2.out]; omega, hcc, by rw [HD2.out], Lib.hid ?_, Lib.hid HD.out, Lib.hid (below_drewN hB.out _)⟩, ?_⟩
          · rw [← hst.out, show f = f - 1 + 1 by omega]; exact GO.out.symm
          · simp [lenOf]; omega
        · have ey' : (fy == ly) = false := by simpa using ey
          have STOP := Lib.hid (fun h => ey (DEC.out.1 h).2)
          clear ex ey
          have FIN : Hid (Cl.strip C.length C = x) := Lib.hid (by rw [← hst.out]; exact strip_stop STOP.out)
          have HR : Hid (Cl.aroundF R = if x.length < 3 then [] else x) := Lib.hid (by rw [HA.out, FIN.out])
          by_cases h3 : x.length < 3
          · have d3 : decide (x.length < 3) = true := by simpa using h3
            have d4 : decide ((x.length : Int) < 3) = true := by simp; omega
            have HR2 : Hid (Cl.aroundF R = []) := Lib.hid (by rw [HR.out, if_pos h3])
            clear h3
            go_wp2_with fail
            go_quiet (fail)
            clear i1 i2 i3
            go_wp2_with fail
            go_ret
            exact ⟨none, 0, by rw [HR2.out]; rfl, by rw [HR2.out]; exact Rd.nil_ _ _, ⟨by rw [HR2.out]; simp, by simp [maxLen]⟩, below_drewN hB.out _⟩
          · have d3 : decide (x.length < 3) = false := by simpa using h3
            have d4 : decide ((x.length : Int) < 3) = false := by simp; omega
            have HR2 : Hid (Cl.aroundF R = x) := Lib.hid (by rw [HR.out, if_neg h3])
            clear h3
            go_wp2_with fail
            go_quiet (fail)
            clear i1 i2 i3
            go_wp2_with fail
            go_ret
            exact ⟨_, cc, by rw [HR2.out]; rfl, by rw [HR2.out]; exact hA.out, ⟨by rw [HR2.out]; exact hxc, by unfold maxLen; omega⟩, below_drewN hB.out _⟩
      · have ex' : (fx == lx) = false := by simpa using ex
        have STOP := Lib.hid (fun h => ex (DEC.out.1 h).1)
        clear ex
        have FIN : Hid (Cl.strip C.length C = x) := Lib.hid (by rw [← hst.out]; exact strip_stop STOP.out)
        have HR : Hid (Cl.aroundF R = if x.length < 3 then [] else x) := Lib.hid (by rw [HA.out, FIN.out])
        by_cases h3 : x.length < 3
        · have d3 : decide (x.length < 3) = true := by simpa using h3
          have d4 : decide ((x.length : Int) < 3) = true := by simp; omega
          have HR2 : Hid (Cl.aroundF R = []) := Lib.hid (by rw [HR.out, if_pos h3])
          clear h3
          go_wp2_with fail
          go_quiet (fail)
          clear i1 i2 i3
          go_wp2_with fail
          go_ret
          exact ⟨none, 0, by rw [HR2.out]; rfl, by rw [HR2.out]; exact Rd.nil_ _ _, ⟨by rw [HR2.out]; simp, by simp [maxLen]⟩, below_drewN hB.out _⟩
        · have d3 : decide (x.length < 3) = false := by simpa using h3
          have d4 : decide ((x.length : Int) < 3) = false := by simp; omega
          have HR2 : Hid (Cl.aroundF R = x) := Lib.hid (by rw [HR.out, if_neg h3])
          clear h3
          go_wp2_with fail
          go_quiet (fail)
          clear i1 i2 i3
          go_wp2_with fail
          go_ret
          exact ⟨_, cc, by rw [HR2.out]; rfl, by rw [HR2.out]; exact hA.out, ⟨by rw [HR2.out]; exact hxc, by unfold maxLen; omega⟩, below_drewN hB.out _⟩
    · have d1 : decide (1 < x.length) = false := by simpa using h1
      have d2 : decide ((1 : Int) < (x.length : Int)) = false := by simp; omega
      have STOP := Lib.hid (fun (h : 1 < x.length ∧ x.head? = x.getLast?) => h1 h.1)
      clear h1
      have FIN : Hid (Cl.strip C.length C = x) := Lib.hid (by rw [← hst.out]; exact strip_stop STOP.out)
      have HR : Hid (Cl.aroundF R = if x.length < 3 then [] else x) := Lib.hid (by rw [HA.out, FIN.out])
      by_cases h3 : x.length < 3
      · have d3 : decide (x.length < 3) = true := by simpa using h3
        have d4 : decide ((x.length : Int) < 3) = true := by simp; omega
        have HR2 : Hid (Cl.aroundF R = []) := Lib.hid (by rw [HR.out, if_pos h3])
        clear h3
        go_wp2_with fail
        go_quiet (fail)
        go_wp2_with fail
        go_ret
        exact ⟨none, 0, by rw [HR2.out]; rfl, by rw [HR2.out]; exact Rd.nil_ _ _, ⟨by rw [HR2.out]; simp, by simp [maxLen]⟩, below_drewN hB.out _⟩
      · have d3 : decide (x.length < 3) = false := by simpa using h3
        have d4 : decide ((x.length : Int) < 3) = false := by simp; omega
        have HR2 : Hid (Cl.aroundF R = x) := Lib.hid (by rw [HR.out, if_neg h3])
        clear h3
        go_wp2_with fail
        go_quiet (fail)
        go_wp2_with fail
        go_ret
        exact ⟨_, cc, by rw [HR2.out]; rfl, by rw [HR2.out]; exact hA.out, ⟨by rw [HR2.out]; exact hxc, by unfold maxLen; omega⟩, below_drewN hB.out _⟩
end Go.Proofs.Ytdiknijbjmhacaa
