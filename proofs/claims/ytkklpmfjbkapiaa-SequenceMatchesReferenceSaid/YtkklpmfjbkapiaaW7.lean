/- WALKS: cutting off the first elements. -/
import Derived.Test.YtkklpmfjbkapiaaW6
namespace Go.Proofs.Ytkklpmfjbkapiaa
open Go.RowKit

/-- behind a cut: the first n are handed back, and block g holds what lies behind the one that follows them -/
def CutPost (w0 w : World) (g : Nat) (A : Option Addr) (l : List ByteArray) (n : Nat) (e : Ending) (w' : World) : Prop :=
  e = .returned (.slice A n n) ∧ ∃ A' c', l.length - (n + 1) ≤ c' ∧ c' ≤ 9223372036854775807 ∧ Rd w0 A' ((l.drop (n + 1)).map Value.string) ∧ Dr (w.setCell ⟨g, 0, none⟩ (.slice A' (l.length - (n + 1)) c')) w'

theorem cutPost_mk {w0 w w' : World} {g : Nat} {A : Option Addr} {l : List ByteArray} {n cap m : Nat} {v : Value} (h : Rd w0 A (l.map Value.string)) (hm : m = min (n + 1) l.length) (hl : l.length ≤ cap) (hc : cap ≤ 9223372036854775807)
    (hv : v = .slice (if cap = m then A else A.map (·.add m)) (l.length - m) (cap - m)) (hw : w' = (w.setCell ⟨g, 0, none⟩ v).drew) : CutPost w0 w g A l n (.returned (.slice A n n)) w' := by
  refine ⟨rfl, if cap = m then A else A.map (·.add m), cap - m, by omega, by omega, ?_, ?_⟩
  · have hml : m ≤ l.length := by omega
    have := h.cut m l.length cap hml (by simpa using hl)
    rw [← List.length_map (f := Value.string), List.take_length] at this
    have e : l.drop (n + 1) = l.drop m := by
      by_cases c : n + 1 ≤ l.length
      · rw [hm, Nat.min_eq_left c]
      · rw [hm, Nat.min_eq_right (by omega), List.drop_of_length_le (by omega), List.drop_of_length_le (Nat.le_refl _)]
    rw [e, List.map_drop]; exact this
  · rw [hw, hv, show l.length - (n + 1) = l.length - m by omega]
    exact drd

set_option maxHeartbeats 3200000 in
theorem cut_any (g : Nat) (A : Option Addr) (l : List ByteArray) (cap n len : Nat) (w0 w : World) (hg : w.heap[g]? = some (.cells #[.slice A len cap] 51 (0, 0))) (hlen : len = l.length) (hn : n ≤ l.length) (hn2 : n ≤ 1000000) (hl : l.length ≤ cap) (hc : cap ≤ 9223372036854775807)
    (h : Rd w0 A (l.map Value.string)) :
    Calls Try.prog 25 #[.pointer (some ⟨g, 0, none⟩), .int .i64 n] w (CutPost w0 w g A l n) := by
  have h1 := cell_of_one hg
  have h2 := free_of_one hg
  clear hg
  have H := Lib.hid h; clear h
  subst hlen
  obtain ⟨L, hL⟩ : ∃ L, L = l.length := ⟨_, rfl⟩
  rw [← hL] at h1 hn hl
  have HL := Lib.hid hL; clear hL
  have n0 : (0 : Int) ≤ (n : Int) := by omega
  have n1 : (n : Int) ≤ (cap : Int) := by omega
  cases A with
  | none =>
    have hL0 : L = 0 := by
      rcases Nat.eq_zero_or_pos L with h | h
      · exact h
      · have := HL.out
        obtain ⟨_, _, e, _⟩ := H.out (by simp; omega)
        cases e
    subst hL0
    obtain rfl : n = 0 := by omega
    go_enter Try.func25, Try.ntmps25
    go_wp2_with fail
    go_region
    go_wp2
    go_ret
    refine cutPost_mk (cap := cap) H.out rfl (by have := HL.out; omega) hc ?_ rfl
    have := HL.out
    simp [← this]
  | some ad =>
    by_cases hlt : n < L
    · by_cases hcap : cap = n + 1
      · obtain rfl := hcap
        go_enter Try.func25, Try.ntmps25
        go_wp2_with fail
        go_region
        go_wp2
        go_ret
        refine cutPost_mk (cap := n + 1) (m := n + 1) H.out (by have := HL.out; omega) (by have := HL.out; omega) hc ?_ rfl
        have := HL.out
        simp [← this]
        omega
      · go_enter Try.func25, Try.ntmps25
        go_wp2_with fail
        go_region
        go_wp2
        go_ret
        refine cutPost_mk (cap := cap) (m := n + 1) H.out (by have := HL.out; omega) (by have := HL.out; omega) hc ?_ rfl
        have := HL.out
        simp [← this, hcap, Addr.add]
    · obtain rfl : n = L := by omega
      by_cases hcap : cap = n
      · obtain rfl := hcap
        go_enter Try.func25, Try.ntmps25
        go_wp2_with fail
        go_region
        go_wp2
        go_ret
        refine cutPost_mk (cap := cap) (m := cap) H.out (by have := HL.out; omega) (by have := HL.out; omega) hc ?_ rfl
        have := HL.out
        simp [← this]
      · go_enter Try.func25, Try.ntmps25
        go_wp2_with fail
        go_region
        go_wp2
        go_ret
        refine cutPost_mk (cap := cap) (m := n) H.out (by have := HL.out; omega) (by have := HL.out; omega) hc ?_ rfl
        have := HL.out
        simp [← this, hcap]

end Go.Proofs.Ytkklpmfjbkapiaa
