/- WALKS: seal.Verify, whole; the laws' own small functions. -/
import Derived.Test.YthceonkdmcidcaaDoorSW
set_option linter.unusedSimpArgs false
set_option linter.unusedVariables false
namespace Go.Proofs.YthceonkdmcidcaaDoor
open Go.RowKit

theorem verify_any (pub m : ByteArray) (idx : Int) (A1 A2 : Option Addr) (c1 c2 : Nat) (sig path : List (List UInt8)) (w : World) (hm : m.size ≤ 1000) (h1 : VArg w A1 sig) (h2 : VArg w A2 path) (ht : Tab w) :
    Calls Tryd.prog 18 #[.string pub, .string m, .agg #[.int .i64 idx, .slice A1 sig.length c1, .slice A2 path.length c2]] w fun e w' => e = .returned (.bool (verB pub.data.toList m.data.toList idx sig path)) ∧ Below w.heap.size w w' := by
  by_cases k1 : sig.length = 18
  · by_cases k2 : path.length ≤ 8
    · cases k3 : oddL sig with
      | true => rw [ver_false (by unfold preB; simp [k3])]; exact verify_no3 pub m idx A1 A2 c1 c2 sig path w h1 h2 ht k1 k2 k3
      | false =>
        cases k4 : oddL path with
        | true => rw [ver_false (by unfold preB; simp [k4])]; exact verify_no4 pub m idx A1 A2 c1 c2 sig path w h1 h2 ht k1 k2 k3 k4
        | false =>
          by_cases k5 : idx < 0
          · rw [ver_false (by unfold preB; simp; omega)]; exact verify_no5 pub m idx A1 A2 c1 c2 sig path w h1 h2 ht k1 k2 k3 k4 k5
          · by_cases k6 : ((2 ^ path.length : Nat) : Int) ≤ idx
            · rw [ver_false (by unfold preB; rw [show decide (idx < ((2 ^ path.length : Nat) : Int)) = false from decide_eq_false (by omega)]; simp)]; exact verify_no6 pub m idx A1 A2 c1 c2 sig path w h1 h2 ht k1 k2 k3 k4 (by omega) k6
            · obtain ⟨j, rfl⟩ : ∃ j : Nat, idx = j := ⟨idx.toNat, by omega⟩
              have kk : j < 2 ^ path.length := by omega
              have hp : preB (j : Int) sig path = true := by
                unfold preB
                rw [show decide ((j : Int) < ((2 ^ path.length : Nat) : Int)) = true from decide_eq_true (by omega), k3, k4]
                simp [k1, k2]
              have e : verB pub.data.toList m.data.toList (j : Int) sig path = decide (Sl.verF m.data.toList j sig path = pub.data.toList) := by
                unfold verB; rw [hp, Int.toNat_natCast]; rfl
              rw [e]
              exact verify_yes pub m j A1 A2 c1 c2 sig path w hm h1 h2 ht k1 k2 k3 k4 kk
    · rw [ver_false (by unfold preB; simp [k2])]; exact verify_no2 pub m idx A1 A2 c1 c2 sig path w h1 h2 ht k1 (by omega)
  · rw [ver_false (by unfold preB; simp [k1])]; exact verify_no1 pub m idx A1 A2 c1 c2 sig path w h1 h2 ht k1

/-! the laws' tests of sizes -/
def ShortSaid (l : List ByteArray) (b : Bool) : Prop := b = true → ∀ s ∈ l, s.size ≤ 300
theorem short_not {l : List ByteArray} : ShortSaid l false := fun h => by cases h
theorem short_end {l : List ByteArray} (h : ∀ j (h : j < l.length), l[j].size ≤ 300) : ShortSaid l true := fun _ s hs => by obtain ⟨i, hi, rfl⟩ := List.mem_iff_getElem.1 hs; exact h i hi
set_option maxHeartbeats 400000 in
theorem short_any (A : Option Addr) (n c : Nat) (l : List ByteArray) (w : World) (hn : n = l.length) (hl : l.length ≤ 1000) (h : Rd w A (l.map Value.string)) :
    Calls Tryd.prog 11 #[.slice A n c] w fun e w' => SomeBool (ShortSaid l) e ∧ w = w' := by
  subst hn
  have H := Lib.hid h; clear h
  go_enter Tryd.func11, Tryd.ntmps11
  go_wp2
  go_loop [3] (fun i => ∃ k : Nat, k ≤ l.length ∧ i = .int .i64 k ∧ Hid (∀ j (_ : j < k) (h : j < l.length), (l[j]'h).size ≤ 300)) (fun i => l.length - (intOf i).toNat)
  case atStart => exact ⟨0, Nat.zero_le _, rfl, Lib.hid (by intro j h; omega)⟩
  case round =>
    obtain ⟨k, hk, rfl, hno⟩ := hrel
    by_cases hlt : k < l.length
    · obtain ⟨b, off, rfl, hb, hc⟩ := H.out.map_at hlt
      by_cases hs : 300 < (l[k]'hlt).size
      · have hsi : (300 : Int) < (l[k]'hlt).size := by omega
        go_wp2
        go_ret
        exact ⟨⟨false, rfl, short_not⟩, rfl⟩
      · have hsi : ¬ (300 : Int) < (l[k]'hlt).size := by omega
        have HS := Lib.hid hs; clear hs
        go_wp2
        go_round
        case rel => exact ⟨k + 1, hlt, by go_num, Lib.hid (fun j hj h => by
          rcases Nat.lt_succ_iff_lt_or_eq.1 hj with h1 | rfl
          · exact hno.out j h1 h
          · exact Nat.le_of_not_lt HS.out)⟩
        case measure => simp [intOf]; omega
    · go_wp2
      go_ret
      exact ⟨⟨_, rfl, short_end fun j h => hno.out j (by omega) h⟩, rfl⟩
/-! plain: what the seals consist of -/
theorem sigF_isD {s m : List UInt8} {i : Nat} : ∀ t ∈ Sl.sigF s i m, Dg.isD t = true := by
  intro t ht
  obtain ⟨k, _, rfl⟩ := List.mem_map.1 ht
  exact Sl.chainF_isD (Dg.sumL_isD _)
theorem up_isD {L : List (List UInt8)} : ∀ t ∈ Sl.up L, Dg.isD t = true := by
  intro t ht
  rw [Sl.up_texts] at ht
  obtain ⟨x, _, rfl⟩ := List.mem_map.1 ht
  exact Dg.sumL_isD x
theorem path_isD : ∀ (h : Nat) (L : List (List UInt8)) (i : Nat), L.length = 2 ^ h → i < 2 ^ h → (∀ t ∈ L, Dg.isD t = true) → ∀ t ∈ Sl.path h L i, Dg.isD t = true
  | 0, _, _, _, _, _, t, ht => by cases ht
  | h + 1, L, i, hl, hi, hd, t, ht => by
    rw [Sl.path] at ht
    rcases List.mem_cons.1 ht with e | e
    · have hq := sib_lt hi
      rw [e, List.getD_eq_getElem?_getD, List.getElem?_eq_getElem (by omega)]
      exact hd _ (List.getElem_mem _)
    · exact path_isD h (Sl.up L) (i / 2) (up_half hl) (by rw [pow_two] at hi; omega) up_isD t e
theorem keys_isD {s : List UInt8} {h : Nat} : ∀ t ∈ Sl.keysF s h, Dg.isD t = true := by
  intro t ht
  obtain ⟨k, _, rfl⟩ := List.mem_map.1 ht
  exact key_isD s k
theorem pathS_isD {s : List UInt8} {h i : Nat} (hi : i < 2 ^ h) : ∀ t ∈ Sl.pathS s h i, Dg.isD t = true := path_isD h _ i (Sl.keysF_len s h) hi keys_isD
theorem root_isD : ∀ (h : Nat) (L : List (List UInt8)), L.length = 2 ^ h → (∀ t ∈ L, Dg.isD t = true) → Dg.isD (Sl.root h L) = true
  | 0, L, hl, hd => by
    show Dg.isD (L.getD 0 []) = true
    rw [List.getD_eq_getElem?_getD, List.getElem?_eq_getElem (by rw [hl]; decide)]
    exact hd _ (List.getElem_mem _)
  | h + 1, L, hl, _ => root_isD h (Sl.up L) (up_half hl) up_isD
theorem public_isD (s : List UInt8) (h : Nat) : Dg.isD (Sl.publicF s h) = true := root_isD h _ (Sl.keysF_len s h) keys_isD
theorem odd_of {L : List (List UInt8)} (h : ∀ t ∈ L, Dg.isD t = true) : oddL L = false := odd_no fun k hk => h _ (List.getElem_mem hk)
theorem isD_300 {L : List (List UInt8)} (h : ∀ t ∈ L, Dg.isD t = true) : ∀ t ∈ L, t.length ≤ 300 := fun t ht => by rw [isD_len (h t ht)]; decide
theorem ver_own {s m : List UInt8} {h i : Nat} (hh : h ≤ 8) (hi : i < 2 ^ h) : verB (Sl.publicF s h) m (i : Int) (Sl.sigF s i m) (Sl.pathS s h i) = true := by
  unfold verB preB
  have pl : (Sl.pathS s h i).length = h := Sl.path_len _ _ _
  rw [odd_of sigF_isD, odd_of (pathS_isD hi), pl, Int.toNat_natCast, Sl.verifies hi, show decide ((i : Int) < ((2 ^ h : Nat) : Int)) = true from decide_eq_true (Int.ofNat_lt.2 hi)]
  simp [Sl.sigF, hh]
end Go.Proofs.YthceonkdmcidcaaDoor
