/- WALKS: the small functions of the program: short, merged, cut. -/
import Derived.Test.YtkklpmfjbkapiaaW1
import Derived.Test.YtkklpmfjbkapiaaPure3
import Derived.StillTailTactics
namespace Go.Proofs.Ytkklpmfjbkapiaa
open Go.RowKit

def slv (v : Option Addr × Nat × Nat) : Value := .slice v.1 v.2.1 v.2.2
def big (vs : List (Option Addr × Nat × Nat)) : Bool := vs.any fun v => decide (2000 < v.2.1)
theorem big_none {vs : List (Option Addr × Nat × Nat)} (h : ∀ j (h : j < vs.length), ¬ 2000 < vs[j].2.1) : big vs = false := by
  unfold big; rw [List.any_eq_false]; intro x hx; obtain ⟨i, hi, rfl⟩ := List.mem_iff_getElem.1 hx; simpa using h i hi
theorem big_at {vs : List (Option Addr × Nat × Nat)} {k : Nat} (hk : k < vs.length) (h : 2000 < vs[k].2.1) : big vs = true := by
  unfold big; rw [List.any_eq_true]; exact ⟨vs[k], List.getElem_mem _, by simpa using h⟩

set_option maxHeartbeats 400000 in
theorem short1_t (A : Option Addr) (n c : Nat) (w : World) (h : 2000 < n) :
    Calls Try.prog 29 #[.slice A n c] w fun e w' => e = .returned (.bool true) ∧ w = w' := by
  go_enter Try.func29, Try.ntmps29
  go_wp2
  go_ret
  exact ⟨ret_bool (by rw [decide_eq_true_eq]; omega), rfl⟩
set_option maxHeartbeats 400000 in
theorem short1_f (A : Option Addr) (n c : Nat) (w : World) (h : n ≤ 2000) :
    Calls Try.prog 29 #[.slice A n c] w fun e w' => e = .returned (.bool false) ∧ w = w' := by
  go_enter Try.func29, Try.ntmps29
  go_wp2
  go_ret
  exact ⟨ret_bool (by rw [decide_eq_false_iff_not]; omega), rfl⟩

set_option maxHeartbeats 400000 in
theorem indexFunc_any (A : Option Addr) (c : Nat) (vs : List (Option Addr × Nat × Nat)) (w : World) (hl : vs.length ≤ 9223372036854775807) (h : Rd w A (vs.map slv)) :
    Calls Try.prog 33 #[.slice A vs.length c, .func (.func 29) #[] #[]] w
      fun e w' => (∃ r : Int, e = .returned (.int .i64 r) ∧ decide (0 ≤ r) = big vs) ∧ w = w' := by
  have H := Lib.hid h; clear h
  go_enter Try.func33, Try.ntmps33
  go_wp2_with fail
  go_loop [8] (fun i => ∃ k : Nat, k ≤ vs.length ∧ i = .int .i64 k ∧ Hid (∀ j (_ : j < k) (h' : j < vs.length), ¬ 2000 < vs[j].2.1)) (fun i => vs.length - (intOf i).toNat)
  case atStart => exact ⟨0, Nat.zero_le _, rfl, by intro j h; omega⟩
  case round =>
    obtain ⟨k, hk, rfl, hno⟩ := hrel
    by_cases hlt : k < vs.length
    · obtain ⟨b, off, rfl, hb, hc⟩ := H.out.map_at hlt
      obtain ⟨A', n', c', hv⟩ : ∃ A' n' c', vs[k] = (A', n', c') := ⟨_, _, _, rfl⟩
      rw [hv] at hc
      simp only [slv] at hc
      by_cases he : 2000 < n'
      · have Hr := Lib.hid (big_at hlt (by rw [hv]; exact he))
        clear hv
        go_wp2_with (go_at_call 29; refine (short1_t _ _ _ _ he).mono ?_; rintro e w' ⟨rfl, rfl⟩)
        go_ret
        exact ⟨⟨k, rfl, by rw [Hr.out]; simp⟩, rfl⟩
      · have he' : n' ≤ 2000 := by omega
        have Hn := Lib.hid hv; clear hv
        go_wp2_with (go_at_call 29; refine (short1_f _ _ _ _ he').mono ?_; rintro e w' ⟨rfl, rfl⟩)
        go_round
        case rel => exact ⟨k + 1, hlt, by go_num, fun j hj h' => by
          rcases Nat.lt_succ_iff_lt_or_eq.1 hj with h | rfl
          · exact hno.out j h h'
          · rw [Hn.out]; exact he⟩
        case measure => simp [intOf]; omega
    · have Hr := Lib.hid (big_none fun j hj => hno.out j (by omega) hj)
      go_wp2
      go_ret
      exact ⟨⟨-1, rfl, by rw [Hr.out]; rfl⟩, rfl⟩

set_option maxHeartbeats 400000 in
theorem containsFunc_any (A : Option Addr) (c : Nat) (vs : List (Option Addr × Nat × Nat)) (w : World) (hl : vs.length ≤ 9223372036854775807) (h : Rd w A (vs.map slv)) :
    Calls Try.prog 28 #[.slice A vs.length c, .func (.func 29) #[] #[]] w
      fun e w' => e = .returned (.bool (big vs)) ∧ w = w' := by
  have H := Lib.hid h; clear h
  go_enter Try.func28, Try.ntmps28
  go_wp2_with fail
  refine (indexFunc_any A c vs w hl H.out).mono ?_
  rintro e w' ⟨⟨r, rfl, hr⟩, rfl⟩
  have Hr := Lib.hid hr; clear hr
  go_wp2
  go_ret
  exact ⟨ret_bool Hr.out, rfl⟩

set_option maxHeartbeats 400000 in
theorem short_t (A : Option Addr) (c : Nat) (vs : List (Option Addr × Nat × Nat)) (n : Nat) (w : World) (hn : n = vs.length) (hl : vs.length ≤ 9223372036854775807) (h : Rd w A (vs.map slv)) (hb : big vs = false) :
    Calls Try.prog 22 #[.slice A n c] w fun e w' => e = .returned (.bool true) ∧ w = w' := by
  subst hn
  have H := Lib.hid h; clear h
  go_enter Try.func22, Try.ntmps22
  go_wp2_with fail
  refine (containsFunc_any A c vs w hl H.out).mono ?_
  rw [hb]
  rintro e w' ⟨rfl, rfl⟩
  go_wp2
  go_ret
  exact ⟨rfl, rfl⟩
set_option maxHeartbeats 400000 in
theorem short_f (A : Option Addr) (c : Nat) (vs : List (Option Addr × Nat × Nat)) (n : Nat) (w : World) (hn : n = vs.length) (hl : vs.length ≤ 9223372036854775807) (h : Rd w A (vs.map slv)) (hb : big vs = true) :
    Calls Try.prog 22 #[.slice A n c] w fun e w' => e = .returned (.bool false) ∧ w = w' := by
  subst hn
  have H := Lib.hid h; clear h
  go_enter Try.func22, Try.ntmps22
  go_wp2_with fail
  refine (containsFunc_any A c vs w hl H.out).mono ?_
  rw [hb]
  rintro e w' ⟨rfl, rfl⟩
  go_wp2
  go_ret
  exact ⟨rfl, rfl⟩

set_option maxHeartbeats 800000 in
theorem equal_any (A B : Option Addr) (c d : Nat) (l m : List ByteArray) (n1 n2 : Nat) (w : World) (hn1 : n1 = l.length) (hn2 : n2 = m.length) (hl : l.length ≤ 9223372036854775807) (hm : m.length ≤ 9223372036854775807)
    (h : Rd w A (l.map Value.string)) (h2 : Rd w B (m.map Value.string)) :
    Calls Try.prog 31 #[.slice A n1 c, .slice B n2 d] w fun e w' => e = .returned (.bool (sameF l m)) ∧ Dr w w' := by
  subst hn1 hn2
  have H := Lib.hid h; clear h
  have H2 := Lib.hid h2; clear h2
  by_cases hlen : l.length = m.length
  · have Hl := Lib.hid hlen
    have hq : ((l.length : Int) != (m.length : Int)) = false := by rw [hlen]; simp
    clear hlen
    go_enter Try.func31, Try.ntmps31
    go_wp2
    go_loopw [13] (fun i wr => ∃ k : Nat, k ≤ l.length ∧ i = .int .i64 k ∧ Hid (∀ j (_ : j < k) (h : j < l.length) (h' : j < m.length), l[j] = m[j]) ∧ Dr w wr) (fun i _ => l.length - (intOf i).toNat)
    case atStart => exact ⟨0, Nat.zero_le _, rfl, by intro j h; omega, dr0⟩
    case round =>
      obtain ⟨k, hk, rfl, hno, n, rfl⟩ := hrel
      by_cases hlt : k < l.length
      · have hlt2 : k < m.length := by have := Hl.out; omega
        obtain ⟨b, off, rfl, hb, hc⟩ := H.out.map_at hlt
        obtain ⟨b2, off2, rfl, hb2, hc2⟩ := H2.out.map_at hlt2
        by_cases he : l[k] = m[k]
        · have he' := str_eq_t he
          have Hn := Lib.hid he; clear he
          go_wp2
          go_quiet (fail)
          go_wp2
          refine ⟨⟨k + 1, hlt, by go_num, fun j hj h h' => ?_, by first | exact dr1 | exact dr2⟩, by simp [intOf]; omega⟩
          rcases Nat.lt_succ_iff_lt_or_eq.1 hj with h1 | rfl
          · exact hno.out j h1 h h'
          · exact Hn.out
        · have he' := str_eq_f he
          have Hr := Lib.hid (sameF_ne hlt hlt2 he); clear he
          go_wp2
          go_quiet (fail)
          go_wp2
          go_ret
          exact ⟨ret_bool Hr.out.symm, by first | exact dr1 | exact dr2⟩
      · go_wp2
        go_ret
        exact ⟨ret_bool (sameF_eq Hl.out fun j h h' => hno.out j (by omega) h h').symm, dr1⟩
  · have Hr := Lib.hid (sameF_len hlen)
    have hq : ((l.length : Int) != (m.length : Int)) = true := by simp; omega
    clear hlen
    go_enter Try.func31, Try.ntmps31
    go_wp2
    go_ret
    exact ⟨ret_bool Hr.out.symm, dr0⟩

/-- what 'merged' hands back -/
def mergedV (b o t : List ByteArray) (vo vt : Value) : Value × Bool := if o = b then (vt, true) else if t = b ∨ t = o then (vo, true) else (.slice none 0 0, false)
theorem sameF_t {a b : List ByteArray} (h : a = b) : sameF a b = true := by simpa [sameF] using h
theorem sameF_f {a b : List ByteArray} (h : a ≠ b) : sameF a b = false := by simpa [sameF] using h

set_option maxHeartbeats 1600000 in
theorem merged_any (A B C : Option Addr) (c1 c2 c3 : Nat) (b o t : List ByteArray) (nb no nt : Nat) (w : World) (hb : nb = b.length) (ho : no = o.length) (ht : nt = t.length) (lb : b.length ≤ 9223372036854775807) (lo : o.length ≤ 9223372036854775807)
    (lt : t.length ≤ 9223372036854775807) (h1 : Rd w A (b.map Value.string)) (h2 : Rd w B (o.map Value.string)) (h3 : Rd w C (t.map Value.string)) :
    Calls Try.prog 24 #[.slice A nb c1, .slice B no c2, .slice C nt c3] w fun e w' =>
      e = .returned (.tuple #[(mergedV b o t (.slice B no c2) (.slice C nt c3)).1, .bool (mergedV b o t (.slice B no c2) (.slice C nt c3)).2]) ∧ Dr w w' := by
  have H1 := Lib.hid h1; clear h1
  have H2 := Lib.hid h2; clear h2
  have H3 := Lib.hid h3; clear h3
  have Hb := Lib.hid hb; clear hb
  have Ho := Lib.hid ho; clear ho
  have Ht := Lib.hid ht; clear ht
  by_cases e1 : o = b
  · have e1' := sameF_t e1
    have HV : Hid (mergedV b o t (.slice B no c2) (.slice C nt c3) = (.slice C nt c3, true)) := Lib.hid (by simp [mergedV, e1])
    clear e1
    go_enter Try.func24, Try.ntmps24
    go_wp2_with fail
    refine (equal_any B A c2 c1 o b no nb w Ho.out Hb.out lo lb H2.out H1.out).mono ?_
    rw [e1']
    rintro e w' ⟨rfl, n1, rfl⟩
    go_wp2
    go_ret2
    rw [HV.out]
    exact ⟨rfl, dr1⟩
  · have e1' := sameF_f e1
    by_cases e2 : t = b
    · have e2' := sameF_t e2
      have HV : Hid (mergedV b o t (.slice B no c2) (.slice C nt c3) = (.slice B no c2, true)) := Lib.hid (by simp [mergedV, e1, e2])
      clear e1 e2
      go_enter Try.func24, Try.ntmps24
      go_wp2_with fail
      refine (equal_any B A c2 c1 o b no nb w Ho.out Hb.out lo lb H2.out H1.out).mono ?_
      rw [e1']
      rintro e w' ⟨rfl, n1, rfl⟩
      go_wp2_with fail
      refine (equal_any C A c3 c1 t b nt nb (w.drewN n1) Ht.out Hb.out lt lb H3.out H1.out).mono ?_
      rw [e2']
      rintro e w' ⟨rfl, n2, rfl⟩
      go_wp2
      go_ret2
      rw [HV.out]
      exact ⟨rfl, by first | exact dr1 | exact dr2⟩
    · have e2' := sameF_f e2
      by_cases e3 : t = o
      · have e3' := sameF_t e3
        have HV : Hid (mergedV b o t (.slice B no c2) (.slice C nt c3) = (.slice B no c2, true)) := Lib.hid (by simp [mergedV, e1, e3])
        clear e1 e2 e3
        go_enter Try.func24, Try.ntmps24
        go_wp2_with fail
        refine (equal_any B A c2 c1 o b no nb w Ho.out Hb.out lo lb H2.out H1.out).mono ?_
        rw [e1']
        rintro e w' ⟨rfl, n1, rfl⟩
        go_wp2_with fail
        refine (equal_any C A c3 c1 t b nt nb (w.drewN n1) Ht.out Hb.out lt lb H3.out H1.out).mono ?_
        rw [e2']
        rintro e w' ⟨rfl, n2, rfl⟩
        go_wp2_with fail
        refine (equal_any C B c3 c2 t o nt no _ Ht.out Ho.out lt lo (by exact H3.out) (by exact H2.out)).mono ?_
        rw [e3']
        rintro e w' ⟨rfl, n3, rfl⟩
        go_wp2
        go_ret2
        rw [HV.out]
        exact ⟨rfl, by first | exact dr1 | exact dr2⟩
      · have e3' := sameF_f e3
        have HV : Hid (mergedV b o t (.slice B no c2) (.slice C nt c3) = (.slice none 0 0, false)) := Lib.hid (by simp [mergedV, e1, e2, e3])
        clear e1 e2 e3
        go_enter Try.func24, Try.ntmps24
        go_wp2_with fail
        refine (equal_any B A c2 c1 o b no nb w Ho.out Hb.out lo lb H2.out H1.out).mono ?_
        rw [e1']
        rintro e w' ⟨rfl, n1, rfl⟩
        go_wp2_with fail
        refine (equal_any C A c3 c1 t b nt nb (w.drewN n1) Ht.out Hb.out lt lb H3.out H1.out).mono ?_
        rw [e2']
        rintro e w' ⟨rfl, n2, rfl⟩
        go_wp2_with fail
        refine (equal_any C B c3 c2 t o nt no _ Ht.out Ho.out lt lo (by exact H3.out) (by exact H2.out)).mono ?_
        rw [e3']
        rintro e w' ⟨rfl, n3, rfl⟩
        go_wp2
        go_ret2
        rw [HV.out]
        exact ⟨rfl, by first | exact dr1 | exact dr2⟩
end Go.Proofs.Ytkklpmfjbkapiaa
