/- WALKS: comparing lists of parts. -/
import Derived.Test.YtdiknijbjmhacaaG1
set_option linter.unusedSimpArgs false
set_option linter.unusedVariables false
namespace Go.Proofs.Ytdiknijbjmhacaa
open Go.RowKit

/-- a slice that reads as a list of parts -/
def Pz (w : World) (A : Option Addr) (ps : List (List Cl.Pt)) : Prop :=
  ∃ vs : List Value, vs.length = ps.length ∧ Rd w A vs ∧ ∀ (i : Nat) (v : Value) (p : List Cl.Pt), vs[i]? = some v → ps[i]? = some p → ∃ Ai ci, v = .slice Ai p.length ci ∧ Rp w Ai p ∧ p.length ≤ ci ∧ ci ≤ maxLen
theorem Pz.below {w w' : World} {A : Option Addr} {ps : List (List Cl.Pt)} (h : Pz w A ps) (hb : Below w.heap.size w w') : Pz w' A ps := by
  obtain ⟨vs, h1, h2, h3⟩ := h
  refine ⟨vs, h1, h2.below hb, fun i v p hv hp => ?_⟩
  obtain ⟨Ai, ci, e, r, l⟩ := h3 i v p hv hp
  exact ⟨Ai, ci, e, r.below hb, l⟩
theorem Pz.at_ {w : World} {A : Option Addr} {ps : List (List Cl.Pt)} (h : Pz w A ps) {k : Nat} (hk : k < ps.length) :
    ∃ b off Ai ci, A = some ⟨b, off, none⟩ ∧ b < w.heap.size ∧ w.cell? ⟨b, off + k, none⟩ = some (.slice Ai ps[k].length ci) ∧ Rp w Ai ps[k] ∧ ps[k].length ≤ ci ∧ ci ≤ maxLen := by
  obtain ⟨vs, h1, h2, h3⟩ := h
  obtain ⟨b, off, e, hb, hc⟩ := h2.at_ (k := k) (by omega)
  obtain ⟨Ai, ci, e', r⟩ := h3 k _ _ (List.getElem?_eq_getElem (by omega)) (List.getElem?_eq_getElem hk)
  exact ⟨b, off, Ai, ci, e, hb, by rw [hc, e'], r⟩
theorem rd_own1 {w : World} {base : Nat} {e : TypeId} {A : Option Addr} {n c : Nat} {xs : List Value} (h : w.ownsRow base e 1 (.slice A n c) n xs) : Rd w A xs := Rd.of_own h
theorem Pz.of_line {w w' : World} {ps : List (List Cl.Pt)} {e : Ending} (h : LinePost w ps e w') : ∃ A c, e = .returned (.slice A ps.length c) ∧ Pz w' A ps ∧ ps.length ≤ c ∧ c ≤ maxLen ∧ Below w.heap.size w w' := by
  obtain ⟨vo, vs, rfl, ho, hp, hb⟩ := h
  obtain ⟨A, c, rfl, h1, h2⟩ := own_form ho
  refine ⟨A, c, rfl, ⟨vs, hp.len, rd_own1 ho, fun i v p hv hq => ?_⟩, h1, h2, hb⟩
  obtain ⟨g, off, ci, e1, e2, e3, e4, e5, e6⟩ := hp.at_ i v p hv hq
  exact ⟨_, ci, e1, e4.rp, e5, e6⟩
def sameParts (a b : List (List Cl.Pt)) : Bool := decide (a = b)
theorem sameParts_len {a b : List (List Cl.Pt)} (h : a.length ≠ b.length) : sameParts a b = false := by unfold sameParts; simp; intro e; exact h (by rw [e])
theorem sameParts_ne {a b : List (List Cl.Pt)} {k : Nat} (h : k < a.length) (h' : k < b.length) (e : samePts a[k] b[k] = false) : sameParts a b = false := by
  unfold sameParts; simp; rintro rfl; unfold samePts at e; simp at e
theorem sameParts_eq {a b : List (List Cl.Pt)} (hl : a.length = b.length) (h : ∀ k (h : k < a.length) (h' : k < b.length), samePts a[k] b[k] = true) : sameParts a b = true := by
  unfold sameParts; simp
  refine List.ext_getElem hl fun k h1 h2 => ?_
  have := h k h1 h2
  unfold samePts at this; simpa using this

set_option maxHeartbeats 1600000 in
theorem rparts_any (A B : Option Addr) (n1 n2 c d : Nat) (l m : List (List Cl.Pt)) (w : World) (hn1 : n1 = l.length) (hn2 : n2 = m.length) (hl : l.length ≤ 1000000) (hm : m.length ≤ 1000000) (h : Pz w A l) (h2 : Pz w B m) (hll : ∀ x ∈ l, x.length ≤ 1000000) (hmm : ∀ x ∈ m, x.length ≤ 1000000) :
    Calls Try.prog 11 #[.slice A n1 c, .slice B n2 d] w fun e w' => e = .returned (.bool (sameParts l m)) ∧ Dr w w' := by
  subst hn1 hn2
  have H := Lib.hid h; clear h
  have H2 := Lib.hid h2; clear h2
  have HL := Lib.hid hll; have HM := Lib.hid hmm; clear hll hmm
  by_cases hlen : l.length = m.length
  · have Hl := Lib.hid hlen
    have hq : ((l.length : Int) != (m.length : Int)) = false := by rw [hlen]; simp
    clear hlen
    go_enter Try.func11, Try.ntmps11
    go_wp2
    go_loopw [5] (fun i wr => ∃ k : Nat, k ≤ l.length ∧ i = .int .i64 k ∧ Hid (∀ j (_ : j < k) (h : j < l.length) (h' : j < m.length), samePts l[j] m[j] = true) ∧ Dr w wr) (fun i _ => l.length - (intOf i).toNat)
    case atStart => exact ⟨0, Nat.zero_le _, rfl, by intro j h; omega, dr0⟩
    case round =>
      obtain ⟨k, hk, rfl, hno, n, rfl⟩ := hrel
      by_cases hlt : k < l.length
      · have hlt2 : k < m.length := by have := Hl.out; omega
        obtain ⟨b, off, Ai, ci, rfl, hb, hc, hr, _⟩ := H.out.at_ hlt
        obtain ⟨b2, off2, Bi, di, rfl, hb2, hc2, hr2, _⟩ := H2.out.at_ hlt2
        have SAME : Hid (∀ u, u = w → ∀ n, Calls Try.prog 14 #[.slice Ai l[k].length ci, .slice Bi m[k].length di] (u.drewN n) fun e w' => e = .returned (.bool (samePts l[k] m[k])) ∧ Dr (u.drewN n) w') := Lib.hid (fun u hu n => by
          subst hu
          exact rsame_any Ai Bi ci di l[k] m[k] _ _ _ rfl rfl (by have := HL.out _ (List.getElem_mem hlt); omega) (by have := HM.out _ (List.getElem_mem hlt2); omega) (Rd.drewN hr n) (Rd.drewN hr2 n))
        obtain ⟨n1, hn1⟩ : ∃ n, n = l[k].length := ⟨_, rfl⟩
        obtain ⟨n2, hn2⟩ : ∃ n, n = m[k].length := ⟨_, rfl⟩
        rw [← hn1] at hc SAME; rw [← hn2] at hc2 SAME
        clear hn1 hn2 hr hr2
        rcases hs : samePts l[k] m[k] with _ | _
        · rw [hs] at SAME
          have Hr := Lib.hid (sameParts_ne hlt hlt2 hs)
          clear hs
          go_wp2
          go_quiet ((go_at_call 14; first | exact qd0 (SAME.out _ rfl _) | exact qd1 (SAME.out _ rfl _)))
          go_wp2
          go_ret
          exact ⟨ret_bool Hr.out.symm, by first | exact dr1 | exact dr2⟩
        · rw [hs] at SAME
          have Hs := Lib.hid hs
          clear hs
          go_wp2
          go_quiet ((go_at_call 14; first | exact qd0 (SAME.out _ rfl _) | exact qd1 (SAME.out _ rfl _)))
          go_wp2
          refine ⟨⟨k + 1, hlt, by go_num, fun j hj h h' => ?_, by first | exact dr1 | exact dr2⟩, by simp [intOf]; omega⟩
          rcases Nat.lt_succ_iff_lt_or_eq.1 hj with h1 | rfl
          · exact hno.out j h1 h h'
          · exact Hs.out
      · go_wp2
        go_ret
        exact ⟨ret_bool (sameParts_eq Hl.out fun j h h' => hno.out j (by omega) h h').symm, dr1⟩
  · have Hr := Lib.hid (sameParts_len hlen)
    have hq : ((l.length : Int) != (m.length : Int)) = true := by simp; omega
    clear hlen
    go_enter Try.func11, Try.ntmps11
    go_wp2
    go_ret
    exact ⟨ret_bool Hr.out.symm, dr0⟩
end Go.Proofs.Ytdiknijbjmhacaa
