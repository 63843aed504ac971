/- WALKS: seal.Sign at arguments that are not as required; which strings are no digests. -/
import Derived.Test.YthceonkdmcidcaaDoorSG
set_option linter.unusedSimpArgs false
set_option linter.unusedVariables false
namespace Go.Proofs.YthceonkdmcidcaaDoor
open Go.RowKit

def oddL (L : List (List UInt8)) : Bool := L.any fun t => !Dg.isD t
theorem odd_yes {L : List (List UInt8)} {k : Nat} (hk : k < L.length) (h : Dg.isD L[k] = false) : oddL L = true := by
  unfold oddL
  rw [List.any_eq_true]
  exact ⟨L[k], List.getElem_mem hk, by rw [h]; rfl⟩
theorem odd_no {L : List (List UInt8)} (h : ∀ k (hk : k < L.length), Dg.isD L[k] = true) : oddL L = false := by
  unfold oddL
  rw [List.any_eq_false]
  intro t ht
  obtain ⟨k, hk, rfl⟩ := List.mem_iff_getElem.1 ht
  rw [h k hk]; simp
set_option maxHeartbeats 400000 in
theorem notD_any (t : ByteArray) (w : World) (ht : t.size ≤ 1000000) :
    Calls Tryd.prog 40 #[.string t] w fun e w' => e = .returned (.bool (!Dg.isD t.data.toList)) ∧ Below w.heap.size w w' := by
  have IA := Lib.hid (is_any t w (by omega))
  generalize Dg.isD t.data.toList = b at *
  go_enter Tryd.func40, Tryd.ntmps40
  go_wp2_with fail
  refine IA.out.mono ?_
  rintro e w1 ⟨rfl, hb1⟩
  have B1 := Lib.hid hb1; clear hb1
  go_wp2_with fail
  go_ret
  exact ⟨rfl, B1.out⟩
def IdxSaid (b : Bool) (e : Ending) : Prop := ∃ v : Int, e = .returned (.int .i64 v) ∧ decide (0 ≤ v) = b
theorem idx_mk {b : Bool} {v : Int} (h : decide (0 ≤ v) = b) : IdxSaid b (.returned (.int .i64 v)) := ⟨v, rfl, h⟩
set_option maxHeartbeats 1000000 in
theorem index_any (A : Option Addr) (c : Nat) (L : List (List UInt8)) (w : World) (hl : L.length ≤ 1000000) (hs : ∀ t ∈ L, t.length ≤ 1000000) (h : Rd w A (sv L)) :
    Calls Tryd.prog 61 #[.slice A L.length c, .func (.func 40) #[] #[]] w fun e w' => IdxSaid (oddL L) e ∧ Below w.heap.size w w' := by
  have H := Lib.hid h; clear h
  have HS := Lib.hid hs; clear hs
  have HB : Hid (Below w.heap.size w w) := Lib.hid (Below.refl _ _)
  go_enter Tryd.func61, Tryd.ntmps61
  go_wp2_with fail
  go_loopw [8] (fun i wr => ∃ k : Nat, k ≤ L.length ∧ i = .int .i64 k ∧ Hid (∀ j (_ : j < k) (hj : j < L.length), Dg.isD (L[j]'hj) = true) ∧ Hid (Below w.heap.size w wr)) (fun i _ => L.length - (intOf i).toNat)
  case atStart => exact ⟨0, Nat.zero_le _, rfl, Lib.hid (by intro j h; omega), HB⟩
  case round =>
    clear HB
    obtain ⟨k, hk, rfl, hok, hbl⟩ := hrel
    by_cases hlt : k < L.length
    · obtain ⟨b, off, rfl, hb, hcell⟩ := (H.out.below hbl.out) (by rw [sv_len]; omega)
      have hc := hcell k _ (sv_at hlt)
      have ND := Lib.hid (fun u => notD_any (mkB (L[k]'hlt)) u (by rw [mkB_size]; exact HS.out _ (List.getElem_mem hlt)))
      rw [mkB_list] at ND
      have OY := Lib.hid (odd_yes hlt)
      have OK2 : Hid (Dg.isD (L[k]'hlt) = true → ∀ j (_ : j < k + 1) (hj : j < L.length), Dg.isD (L[j]'hj) = true) := Lib.hid (fun h1 j hj hj2 => by
        rcases Nat.lt_succ_iff_lt_or_eq.1 hj with h2 | rfl
        · exact hok.out j h2 hj2
        · exact h1)
      clear hcell
      generalize mkB (L[k]'hlt) = y at *
      generalize Dg.isD (L[k]'hlt) = q at *
      have d1 : (k : Int) < (L.length : Int) := by omega
      cases q with
      | false =>
        go_wp2_with fail
        refine (ND.out _).mono ?_
        rintro e w1 ⟨rfl, hb1⟩
        have B1 := Lib.hid (hbl.out.trans (hb1.mono hbl.out.size)); clear hb1
        go_wp2_with fail
        go_ret
        exact ⟨idx_mk (by rw [OY.out (by first | rfl | trivial)]; simp), B1.out⟩
      | true =>
        go_wp2_with fail
        refine (ND.out _).mono ?_
        rintro e w1 ⟨rfl, hb1⟩
        have B1 := Lib.hid (hbl.out.trans (hb1.mono hbl.out.size)); clear hb1
        go_wp2_with fail
        exact ⟨⟨k + 1, hlt, by go_num, Lib.hid (OK2.out (by first | rfl | trivial)), B1⟩, by simp [intOf]; omega⟩
    · obtain rfl : k = L.length := by omega
      have ON := Lib.hid (odd_no (L := L) (fun j hj => hok.out j hj hj))
      have d1 : ¬ (L.length : Int) < (L.length : Int) := by omega
      go_wp2_with fail
      go_ret
      exact ⟨idx_mk (by rw [ON.out]; rfl), hbl.out⟩
theorem contains_any (A : Option Addr) (c : Nat) (L : List (List UInt8)) (w : World) (hl : L.length ≤ 1000000) (hs : ∀ t ∈ L, t.length ≤ 1000000) (h : Rd w A (sv L)) :
    Calls Tryd.prog 39 #[.slice A L.length c, .func (.func 40) #[] #[]] w fun e w' => e = .returned (.bool (oddL L)) ∧ Below w.heap.size w w' := by
  have IA := Lib.hid (index_any A c L w hl hs h)
  clear h hs
  generalize oddL L = b at *
  go_enter Tryd.func39, Tryd.ntmps39
  go_wp2_with fail
  refine IA.out.mono ?_
  rintro e w1 ⟨⟨v, rfl, hv⟩, hb1⟩
  have B1 := Lib.hid hb1; clear hb1
  go_wp2_with fail
  go_ret
  first | exact ⟨rfl, B1.out⟩ | exact ⟨ret_bool hv, B1.out⟩
theorem odd_any (A : Option Addr) (c : Nat) (L : List (List UInt8)) (w : World) (hl : L.length ≤ 1000000) (hs : ∀ t ∈ L, t.length ≤ 1000000) (h : Rd w A (sv L)) :
    Calls Tryd.prog 38 #[.slice A L.length c] w fun e w' => e = .returned (.bool (oddL L)) ∧ Below w.heap.size w w' := by
  have IA := Lib.hid (contains_any A c L w hl hs h)
  clear h hs
  generalize oddL L = b at *
  go_enter Tryd.func38, Tryd.ntmps38
  go_wp2_with fail
  refine IA.out.mono ?_
  rintro e w1 ⟨rfl, hb1⟩
  have B1 := Lib.hid hb1; clear hb1
  go_wp2_with fail
  go_ret
  exact ⟨rfl, B1.out⟩
end Go.Proofs.YthceonkdmcidcaaDoor
