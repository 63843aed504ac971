/- WALKS: comparing points. -/
import Derived.Test.YtdiknijbjmhacaaD1
set_option linter.unusedSimpArgs false
set_option linter.unusedVariables false
namespace Go.Proofs.Ytdiknijbjmhacaa
open Go.RowKit

def samePts (a b : List Cl.Pt) : Bool := decide (a = b)
theorem samePts_len {a b : List Cl.Pt} (h : a.length ≠ b.length) : samePts a b = false := by unfold samePts; simp; intro e; exact h (by rw [e])
theorem samePts_ne {a b : List Cl.Pt} {k : Nat} (h : k < a.length) (h' : k < b.length) (e : a[k] ≠ b[k]) : samePts a b = false := by
  unfold samePts; simp; rintro rfl; exact e rfl
theorem samePts_eq {a b : List Cl.Pt} (hl : a.length = b.length) (h : ∀ k (h : k < a.length) (h' : k < b.length), a[k] = b[k]) : samePts a b = true := by
  unfold samePts; simp; exact List.ext_getElem hl h

set_option maxHeartbeats 800000 in
theorem rsame_any (A B : Option Addr) (c d : Nat) (l m : List Cl.Pt) (n1 n2 : Nat) (w : World) (hn1 : n1 = l.length) (hn2 : n2 = m.length) (hl : l.length ≤ 9223372036854775807) (hm : m.length ≤ 9223372036854775807)
    (h : Rp w A l) (h2 : Rp w B m) :
    Calls Try.prog 14 #[.slice A n1 c, .slice B n2 d] w fun e w' => e = .returned (.bool (samePts l m)) ∧ Dr w w' := by
  subst hn1 hn2
  have H := Lib.hid h; clear h
  have H2 := Lib.hid h2; clear h2
  by_cases hlen : l.length = m.length
  · have Hl := Lib.hid hlen
    have hq : ((l.length : Int) != (m.length : Int)) = false := by rw [hlen]; simp
    clear hlen
    go_enter Try.func14, Try.ntmps14
    go_wp2
    go_loopw [5] (fun i wr => ∃ k : Nat, k ≤ l.length ∧ i = .int .i64 k ∧ Hid (∀ j (_ : j < k) (h : j < l.length) (h' : j < m.length), l[j] = m[j]) ∧ Dr w wr) (fun i _ => l.length - (intOf i).toNat)
    case atStart => exact ⟨0, Nat.zero_le _, rfl, by intro j h; omega, dr0⟩
    case round =>
      obtain ⟨k, hk, rfl, hno, n, rfl⟩ := hrel
      by_cases hlt : k < l.length
      · have hlt2 : k < m.length := by have := Hl.out; omega
        obtain ⟨b, off, rfl, hb, hc, hc'⟩ := H.out.at_ hlt
        obtain ⟨b2, off2, rfl, hb2, hc2, hc2'⟩ := H2.out.at_ hlt2
        obtain ⟨x, hx⟩ : ∃ x, x = l[k].1 := ⟨_, rfl⟩
        obtain ⟨y, hy⟩ : ∃ y, y = l[k].2 := ⟨_, rfl⟩
        obtain ⟨x', hx'⟩ : ∃ x, x = m[k].1 := ⟨_, rfl⟩
        obtain ⟨y', hy'⟩ : ∃ y, y = m[k].2 := ⟨_, rfl⟩
        rw [← hx] at hc; rw [← hy] at hc'; rw [← hx'] at hc2; rw [← hy'] at hc2'
        have HX := Lib.hid hx; have HY := Lib.hid hy; have HX' := Lib.hid hx'; have HY' := Lib.hid hy'; clear hx hy hx' hy'
        by_cases ex : x = x'
        · have ex' : (x == x') = true := by simpa using ex
          by_cases ey : y = y'
          · have ey' : (y == y') = true := by simpa using ey
            have Hn : Hid (l[k] = m[k]) := Lib.hid (Prod.ext (by rw [← HX.out, ← HX'.out]; exact ex) (by rw [← HY.out, ← HY'.out]; exact ey))
            clear ex ey
            go_wp2
            go_quiet (fail)
            go_wp2
            refine ⟨⟨k + 1, hlt, by go_num, fun j hj h h' => ?_, by first | exact dr1 | exact dr2⟩, by simp [intOf]; omega⟩
            rcases Nat.lt_succ_iff_lt_or_eq.1 hj with h1 | rfl
            · exact hno.out j h1 h h'
            · exact Hn.out
          · have ey' : (y == y') = false := by simpa using ey
            have Hr := Lib.hid (samePts_ne hlt hlt2 (fun e => ey (by rw [HY.out, HY'.out, e])))
            clear ex ey
            go_wp2
            go_quiet (fail)
            go_wp2
            go_ret
            exact ⟨ret_bool Hr.out.symm, by first | exact dr1 | exact dr2⟩
        · have ex' : (x == x') = false := by simpa using ex
          have Hr := Lib.hid (samePts_ne hlt hlt2 (fun e => ex (by rw [HX.out, HX'.out, e])))
          clear ex
          go_wp2
          go_quiet (fail)
          go_wp2
          go_ret
          exact ⟨ret_bool Hr.out.symm, by first | exact dr1 | exact dr2⟩
      · go_wp2
        go_ret
        exact ⟨ret_bool (samePts_eq Hl.out fun j h h' => hno.out j (by omega) h h').symm, dr1⟩
  · have Hr := Lib.hid (samePts_len hlen)
    have hq : ((l.length : Int) != (m.length : Int)) = true := by simp; omega
    clear hlen
    go_enter Try.func14, Try.ntmps14
    go_wp2
    go_ret
    exact ⟨ret_bool Hr.out.symm, dr0⟩
end Go.Proofs.Ytdiknijbjmhacaa
