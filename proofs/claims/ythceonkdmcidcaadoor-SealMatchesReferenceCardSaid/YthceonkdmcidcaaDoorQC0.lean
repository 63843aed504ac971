/- WORDS: what is old of a world; the reference's Same. -/
import Derived.Test.YthceonkdmcidcaaDoorQ7
import Derived.Lib.MinMax
import Derived.Deep.QuietTactic
import Derived.BigQuiet
import Derived.Deep.RegionHeld3
import Derived.Deep.DrawnRows
set_option linter.unusedSimpArgs false
set_option linter.unusedVariables false
namespace Go.Proofs.YthceonkdmcidcaaDoor
open Go.RowKit

theorem run_min3 {P : Program} {w : World} (ts : Array TypeId) (t : TypeId) (k1 k2 k3 : IntKind) (x y z : Int) : (Builtin.min_ ts t #[.int k1 x, .int k2 y, .int k3 z]).run P w = .ok (.int k1 (min (min x y) z)) w := by
  have e : ∀ a b : Int, (if b < a then b else a) = min a b := fun a b => by by_cases h : b < a <;> simp [h] <;> omega
  simp [Builtin.min_, Builtin.min2, e]
def OldOf (w w' : World) : Prop := Below w.heap.size w w'
theorem OldOf.refl (w : World) : OldOf w w := Below.refl _ _
theorem OldOf.drew {w w' : World} (h : OldOf w w') : OldOf w w'.drew := Below.drew h
theorem OldOf.below {w u v : World} (h : OldOf w u) (k : Below u.heap.size u v) : OldOf w v := Below.trans h (k.mono (Below.size h))

def sameF (a b : List ByteArray) : Bool := decide (a = b)
theorem sameF_len {a b : List ByteArray} (h : a.length ≠ b.length) : sameF a b = false := by unfold sameF; simp; intro e; exact h (by rw [e])
theorem sameF_ne {a b : List ByteArray} {k : Nat} (h : k < a.length) (h' : k < b.length) (e : a[k] ≠ b[k]) : sameF a b = false := by
  unfold sameF; simp; rintro rfl; exact e rfl
theorem sameF_eq {a b : List ByteArray} (hl : a.length = b.length) (h : ∀ k (h : k < a.length) (h' : k < b.length), a[k] = b[k]) : sameF a b = true := by
  unfold sameF; simp; exact List.ext_getElem hl h

set_option maxHeartbeats 800000 in
theorem same_any (A B : Option Addr) (c d : Nat) (l m : List ByteArray) (n1 n2 : Nat) (w : World) (hn1 : n1 = l.length) (hn2 : n2 = m.length) (hl : l.length ≤ 9223372036854775807) (hm : m.length ≤ 9223372036854775807)
    (h : Rd w A (l.map Value.string)) (h2 : Rd w B (m.map Value.string)) :
    Calls Tryd.prog 21 #[.slice A n1 c, .slice B n2 d] w fun e w' => e = .returned (.bool (sameF l m)) ∧ Dr w w' := by
  subst hn1 hn2
  have H := Lib.hid h; clear h
  have H2 := Lib.hid h2; clear h2
  by_cases hlen : l.length = m.length
  · have Hl := Lib.hid hlen
    have hq : ((l.length : Int) != (m.length : Int)) = false := by rw [hlen]; simp
    clear hlen
    go_enter Tryd.func21, Tryd.ntmps21
    go_wp2
    go_loopw [5] (fun i wr => ∃ k : Nat, k ≤ l.length ∧ i = .int .i64 k ∧ Hid (∀ j (_ : j < k) (h : j < l.length) (h' : j < m.length), l[j] = m[j]) ∧ Dr w wr) (fun i _ => l.length - (intOf i).toNat)
    case atStart => exact ⟨0, Nat.zero_le _, rfl, by intro j h; omega, dr0⟩
    case round =>
      obtain ⟨k, hk, rfl, hno, n, rfl⟩ := hrel
      by_cases hlt : k < l.length
      · have hlt2 : k < m.length := by have := Hl.out; omega
        obtain ⟨b, off, rfl, hb, hc⟩ := H.out.map_at hlt
        obtain ⟨b2, off2, rfl, hb2, hc2⟩ := H2.out.map_at hlt2
        by_cases he : l[k] = m[k]
        · have he' := str_eq_t he
          have Hn := Lib.hid he; clear he
          go_wp2
          go_quiet (fail)
          go_wp2
          refine ⟨⟨k + 1, hlt, by go_num, fun j hj h h' => ?_, by first | exact dr1 | exact dr2⟩, by simp [intOf]; omega⟩
          rcases Nat.lt_succ_iff_lt_or_eq.1 hj with h1 | rfl
          · exact hno.out j h1 h h'
          · exact Hn.out
        · have he' := str_eq_f he
          have Hr := Lib.hid (sameF_ne hlt hlt2 he); clear he
          go_wp2
          go_quiet (fail)
          go_wp2
          go_ret
          exact ⟨ret_bool Hr.out.symm, by first | exact dr1 | exact dr2⟩
      · go_wp2
        go_ret
        exact ⟨ret_bool (sameF_eq Hl.out fun j h h' => hno.out j (by omega) h h').symm, dr1⟩
  · have Hr := Lib.hid (sameF_len hlen)
    have hq : ((l.length : Int) != (m.length : Int)) = true := by simp; omega
    clear hlen
    go_enter Tryd.func21, Tryd.ntmps21
    go_wp2
    go_ret
    exact ⟨ret_bool Hr.out.symm, dr0⟩
end Go.Proofs.YthceonkdmcidcaaDoor
