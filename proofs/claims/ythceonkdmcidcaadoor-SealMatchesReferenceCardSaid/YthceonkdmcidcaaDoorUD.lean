/- WALKS: the reference's Few, Same, Shown. -/
import Derived.Test.YthceonkdmcidcaaDoorUC
set_option linter.unusedSimpArgs false
set_option linter.unusedVariables false
namespace Go.Proofs.YthceonkdmcidcaaDoor
open Go.RowKit

def Few2Said (S P : List (List UInt8)) (b : Bool) : Prop := b = true → (S.length ≤ 30 ∧ ∀ t ∈ S, t.length ≤ 100) ∧ (P.length ≤ 30 ∧ ∀ t ∈ P, t.length ≤ 100)
theorem few2_not {S P : List (List UInt8)} : Few2Said S P false := fun h => by cases h
theorem all_100 {S : List (List UInt8)} {k : Nat} (hk : S.length ≤ k) (h : ∀ j, j < k → (S.getD j []).length ≤ 100) : ∀ t ∈ S, t.length ≤ 100 := by
  intro t ht
  obtain ⟨i, hi, rfl⟩ := List.mem_iff_getElem.1 ht
  have := h i (by omega)
  rwa [List.getD_eq_getElem?_getD, List.getElem?_eq_getElem hi] at this
set_option maxRecDepth 100000 in
set_option maxHeartbeats 4000000 in
theorem few2_any (idx : Int) (A1 A2 : Option Addr) (c1 c2 : Nat) (S P : List (List UInt8)) (w : World) (hS : S.length ≤ 8796093022208) (hP : P.length ≤ 8796093022208) (r1 : Rd w A1 (sv S)) (r2 : Rd w A2 (sv P)) :
    Calls Tryd.prog 12 #[.agg #[.int .i64 idx, .slice A1 S.length c1, .slice A2 P.length c2]] w fun e w' => SomeBool (Few2Said S P) e ∧ Below w.heap.size w w' := by
  obtain ⟨n1, hn1⟩ : ∃ n, S.length = n := ⟨_, rfl⟩
  obtain ⟨n2, hn2⟩ : ∃ n, P.length = n := ⟨_, rfl⟩
  have N1 := Lib.hid hn1; have N2 := Lib.hid hn2
  rw [hn1, hn2]
  obtain ⟨W, hW⟩ : ∃ W, W = w.alloc (.cells #[.int .i64 idx, .slice A1 n1 c1, .slice A2 n2 c2] 24) := ⟨_, rfl⟩
  obtain ⟨B, hB⟩ : ∃ B, w.heap.size = B := ⟨_, rfl⟩
  have BL : Hid (Below w.heap.size w W) := Lib.hid (by rw [hW]; exact (Below.refl _ _).alloc (Nat.le_refl _) _)
  have G : Hid (W.heap[B]? = some (.cells #[.int .i64 idx, .slice A1 n1 c1, .slice A2 n2 c2] 24 (0, 0))) := Lib.hid (by rw [hW, ← hB]; exact heap_alloc_new w _)
  have R1 := Lib.hid (r1.below BL.out); have R2 := Lib.hid (r2.below BL.out)
  obtain ⟨x0, x1, x2⟩ := cells3 G.out
  rw [hn1] at hS; rw [hn2] at hP
  clear hn1 hn2 r1 r2
  go_enter Tryd.func12, Tryd.ntmps12
  go_wp2_with fail
  rw [← hW]
  clear hB hW
  go_loop [3] (fun i => ∃ k : Nat, k ≤ n1 ∧ k ≤ 30 ∧ i = .int .i64 k ∧ Hid (∀ j, j < k → (S.getD j []).length ≤ 100)) (fun i => 30 - (intOf i).toNat)
  case atStart => exact ⟨0, by omega, by omega, rfl, Lib.hid (fun j h => by omega)⟩
  case round =>
    obtain ⟨k, hk, hk3, rfl, hno⟩ := hrel
    by_cases hlt : k < n1 ∧ k < 30
    · obtain ⟨h1, h2⟩ := hlt
      obtain ⟨b, off, rfl, hb, hcell⟩ := R1.out (by rw [sv_len, N1.out]; omega)
      have hc := hcell k _ (getD_at (by rw [N1.out]; exact h1))
      clear hcell
      have i1 : (k : Int) < (n1 : Int) := by omega
      have i2 : (k : Int) < 30 := by omega
      have zs := mkB_size (S.getD k [])
      have NX := Lib.hid hno.out
      obtain ⟨y, hy⟩ : ∃ y, S.getD k [] = y := ⟨_, rfl⟩
      have HY := Lib.hid hy
      rw [hy] at hc zs
      clear hno hy
      by_cases hs : 100 < y.length
      · have hsi : (100 : Int) < ((mkB y).size : Int) := by omega
        clear zs
        go_wp2_with fail
        go_ret
        exact ⟨⟨false, rfl, few2_not⟩, BL.out⟩
      · have hsi : ¬ (100 : Int) < ((mkB y).size : Int) := by omega
        clear zs
        have HS := Lib.hid hs; clear hs
        go_wp2_with fail
        go_round
        case rel => exact ⟨k + 1, by omega, by omega, by go_num, Lib.hid (fun j hj => by
          rcases Nat.lt_succ_iff_lt_or_eq.1 hj with h1 | rfl
          · exact NX.out j h1
          · rw [HY.out]; exact Nat.le_of_not_lt HS.out)⟩
        case measure => simp [intOf]; omega
    · have E1 : Hid (n1 ≤ 30 → ∀ t ∈ S, t.length ≤ 100) := Lib.hid (fun h => all_100 (k := k) (by rw [N1.out]; omega) hno.out)
      clear hno
      have X : (k < n1 ∧ ¬ k < 30) ∨ ¬ k < n1 := by omega
      rcases X with ⟨a1, a2⟩ | a1
      · have i1 : (k : Int) < (n1 : Int) := by omega
        have i2 : ¬ (k : Int) < 30 := by omega
        go_wp2_with fail
        clear i1
        go_loop [4] (fun i => ∃ k : Nat, k ≤ n2 ∧ k ≤ 30 ∧ i = .int .i64 k ∧ Hid (∀ j, j < k → (P.getD j []).length ≤ 100)) (fun i => 30 - (intOf i).toNat)
        case atStart => exact ⟨0, by omega, by omega, rfl, Lib.hid (fun j h => by omega)⟩
        case round =>
          obtain ⟨p, hp, hp3, rfl, hno⟩ := hrel
          by_cases hlt : p < n2 ∧ p < 30
          · obtain ⟨h1, h2⟩ := hlt
            obtain ⟨b, off, rfl, hb, hcell⟩ := R2.out (by rw [sv_len, N2.out]; omega)
            have hc := hcell p _ (getD_at (by rw [N2.out]; exact h1))
            clear hcell
            have i1 : (p : Int) < (n2 : Int) := by omega
            have i2 : (p : Int) < 30 := by omega
            have zs := mkB_size (P.getD p [])
            have NX := Lib.hid hno.out
            obtain ⟨y, hy⟩ : ∃ y, P.getD p [] = y := ⟨_, rfl⟩
            have HY := Lib.hid hy
            rw [hy] at hc zs
            clear hno hy
            by_cases hs : 100 < y.length
            · have hsi : (100 : Int) < ((mkB y).size : Int) := by omega
              clear zs
              go_wp2_with fail
              go_ret
              exact ⟨⟨false, rfl, few2_not⟩, BL.out⟩
            · have hsi : ¬ (100 : Int) < ((mkB y).size : Int) := by omega
              clear zs
              have HS := Lib.hid hs; clear hs
              go_wp2_with fail
              go_round
              case rel => exact ⟨p + 1, by omega, by omega, by go_num, Lib.hid (fun j hj => by
                rcases Nat.lt_succ_iff_lt_or_eq.1 hj with h1 | rfl
                · exact NX.out j h1
                · rw [HY.out]; exact Nat.le_of_not_lt HS.out)⟩
              case measure => simp [intOf]; omega
          · have E2 : Hid (n2 ≤ 30 → ∀ t ∈ P, t.length ≤ 100) := Lib.hid (fun h => all_100 (k := p) (by rw [N2.out]; omega) hno.out)
            clear hno
            have X : (p < n2 ∧ ¬ p < 30) ∨ ¬ p < n2 := by omega
            by_cases q1 : n1 ≤ 30
            · have j1 : decide ((n1 : Int) ≤ 30) = true := decide_eq_true (by omega)
              by_cases q2 : n2 ≤ 30
              · have j2 : decide ((n2 : Int) ≤ 30) = true := decide_eq_true (by omega)
                have EE : Hid (Few2Said S P true) := Lib.hid (fun _ => ⟨⟨by rw [N1.out]; exact q1, E1.out q1⟩, ⟨by rw [N2.out]; exact q2, E2.out q2⟩⟩)
                clear q1 q2
                rcases X with ⟨b1, b2⟩ | b1
                · have i1 : (p : Int) < (n2 : Int) := by omega
                  have i2 : ¬ (p : Int) < 30 := by omega
                  go_wp2_with fail
                  go_ret
                  exact ⟨⟨true, rfl, EE.out⟩, BL.out⟩
                · have i1 : ¬ (p : Int) < (n2 : Int) := by omega
                  go_wp2_with fail
                  go_ret
                  exact ⟨⟨true, rfl, EE.out⟩, BL.out⟩
              · have j2 : decide ((n2 : Int) ≤ 30) = false := decide_eq_false (by omega)
                clear q1 q2
                rcases X with ⟨b1, b2⟩ | b1
                · have i1 : (p : Int) < (n2 : Int) := by omega
                  have i2 : ¬ (p : Int) < 30 := by omega
                  go_wp2_with fail
                  go_ret
                  exact ⟨⟨false, rfl, few2_not⟩, BL.out⟩
                · have i1 : ¬ (p : Int) < (n2 : Int) := by omega
                  go_wp2_with fail
                  go_ret
                  exact ⟨⟨false, rfl, few2_not⟩, BL.out⟩
            · have j1 : decide ((n1 : Int) ≤ 30) = false := decide_eq_false (by omega)
              clear q1
              rcases X with ⟨b1, b2⟩ | b1
              · have i1 : (p : Int) < (n2 : Int) := by omega
                have i2 : ¬ (p : Int) < 30 := by omega
                go_wp2_with fail
                go_ret
                exact ⟨⟨false, rfl, few2_not⟩, BL.out⟩
              · have i1 : ¬ (p : Int) < (n2 : Int) := by omega
                go_wp2_with fail
                go_ret
                exact ⟨⟨false, rfl, few2_not⟩, BL.out⟩
      · have i1 : ¬ (k : Int) < (n1 : Int) := by omega
        go_wp2_with fail
        clear i1
        go_loop [4] (fun i => ∃ k : Nat, k ≤ n2 ∧ k ≤ 30 ∧ i = .int .i64 k ∧ Hid (∀ j, j < k → (P.getD j []).length ≤ 100)) (fun i => 30 - (intOf i).toNat)
        case atStart => exact ⟨0, by omega, by omega, rfl, Lib.hid (fun j h => by omega)⟩
        case round =>
          obtain ⟨p, hp, hp3, rfl, hno⟩ := hrel
          by_cases hlt : p < n2 ∧ p < 30
          · obtain ⟨h1, h2⟩ := hlt
            obtain ⟨b, off, rfl, hb, hcell⟩ := R2.out (by rw [sv_len, N2.out]; omega)
            have hc := hcell p _ (getD_at (by rw [N2.out]; exact h1))
            clear hcell
            have i1 : (p : Int) < (n2 : Int) := by omega
            have i2 : (p : Int) < 30 := by omega
            have zs := mkB_size (P.getD p [])
            have NX := Lib.hid hno.out
            obtain ⟨y, hy⟩ : ∃ y, P.getD p [] = y := ⟨_, rfl⟩
            have HY := Lib.hid hy
            rw [hy] at hc zs
            clear hno hy
            by_cases hs : 100 < y.length
            · have hsi : (100 : Int) < ((mkB y).size : Int) := by omega
              clear zs
              go_wp2_with fail
              go_ret
              exact ⟨⟨false, rfl, few2_not⟩, BL.out⟩
            · have hsi : ¬ (100 : Int) < ((mkB y).size : Int) := by omega
              clear zs
              have HS := Lib.hid hs; clear hs
              go_wp2_with fail
              go_round
              case rel => exact ⟨p + 1, by omega, by omega, by go_num, Lib.hid (fun j hj => by
                rcases Nat.lt_succ_iff_lt_or_eq.1 hj with h1 | rfl
                · exact NX.out j h1
                · rw [HY.out]; exact Nat.le_of_not_lt HS.out)⟩
              case measure => simp [intOf]; omega
          · have E2 : Hid (n2 ≤ 30 → ∀ t ∈ P, t.length ≤ 100) := Lib.hid (fun h => all_100 (k := p) (by rw [N2.out]; omega) hno.out)
            clear hno
            have X : (p < n2 ∧ ¬ p < 30) ∨ ¬ p < n2 := by omega
            by_cases q1 : n1 ≤ 30
            · have j1 : decide ((n1 : Int) ≤ 30) = true := decide_eq_true (by omega)
              by_cases q2 : n2 ≤ 30
              · have j2 : decide ((n2 : Int) ≤ 30) = true := decide_eq_true (by omega)
                have EE : Hid (Few2Said S P true) := Lib.hid (fun _ => ⟨⟨by rw [N1.out]; exact q1, E1.out q1⟩, ⟨by rw [N2.out]; exact q2, E2.out q2⟩⟩)
                clear q1 q2
                rcases X with ⟨b1, b2⟩ | b1
                · have i1 : (p : Int) < (n2 : Int) := by omega
                  have i2 : ¬ (p : Int) < 30 := by omega
                  go_wp2_with fail
                  go_ret
                  exact ⟨⟨true, rfl, EE.out⟩, BL.out⟩
                · have i1 : ¬ (p : Int) < (n2 : Int) := by omega
                  go_wp2_with fail
                  go_ret
                  exact ⟨⟨true, rfl, EE.out⟩, BL.out⟩
              · have j2 : decide ((n2 : Int) ≤ 30) = false := decide_eq_false (by omega)
                clear q1 q2
                rcases X with ⟨b1, b2⟩ | b1
                · have i1 : (p : Int) < (n2 : Int) := by omega
                  have i2 : ¬ (p : Int) < 30 := by omega
                  go_wp2_with fail
                  go_ret
                  exact ⟨⟨false, rfl, few2_not⟩, BL.out⟩
                · have i1 : ¬ (p : Int) < (n2 : Int) := by omega
                  go_wp2_with fail
                  go_ret
                  exact ⟨⟨false, rfl, few2_not⟩, BL.out⟩
            · have j1 : decide ((n1 : Int) ≤ 30) = false := decide_eq_false (by omega)
              clear q1
              rcases X with ⟨b1, b2⟩ | b1
              · have i1 : (p : Int) < (n2 : Int) := by omega
                have i2 : ¬ (p : Int) < 30 := by omega
                go_wp2_with fail
                go_ret
                exact ⟨⟨false, rfl, few2_not⟩, BL.out⟩
              · have i1 : ¬ (p : Int) < (n2 : Int) := by omega
                go_wp2_with fail
                go_ret
                exact ⟨⟨false, rfl, few2_not⟩, BL.out⟩

theorem short2_any (a b : ByteArray) (u : World) : Calls Tryd.prog 11 #[.slice (some ⟨u.heap.size, 0, none⟩) 2 2] (u.alloc (.cells #[.string a, .string b] 9)) fun e w' => SomeBool (ShortSaid [a, b]) e ∧ u.alloc (.cells #[.string a, .string b] 9) = w' :=
  short_any _ 2 2 [a, b] _ rfl (by show 2 ≤ 1000; decide) (Rd.of_row (heap_alloc_new u _) (List.prefix_refl _))
theorem short3_any (a b c : ByteArray) (u : World) : Calls Tryd.prog 11 #[.slice (some ⟨u.heap.size, 0, none⟩) 3 3] (u.alloc (.cells #[.string a, .string b, .string c] 9)) fun e w' => SomeBool (ShortSaid [a, b, c]) e ∧ u.alloc (.cells #[.string a, .string b, .string c] 9) = w' :=
  short_any _ 3 3 [a, b, c] _ rfl (by show 3 ≤ 1000; decide) (Rd.of_row (heap_alloc_new u _) (List.prefix_refl _))
/-! Same, in general -/
def same2F (i j : Int) (L1 L2 P1 P2 : List (List UInt8)) : Bool := decide (i = j) && (sameF (mkL L1) (mkL L2) && sameF (mkL P1) (mkL P2))
theorem mkL_inj {a b : List (List UInt8)} (e : mkL a = mkL b) : a = b := by rw [← bys_mkL a, ← bys_mkL b, e]
theorem same2F_eq {i j : Int} {L1 L2 P1 P2 : List (List UInt8)} (h : same2F i j L1 L2 P1 P2 = true) : i = j ∧ L1 = L2 ∧ P1 = P2 := by
  unfold same2F sameF at h
  simp only [Bool.and_eq_true, decide_eq_true_eq] at h
  exact ⟨h.1, mkL_inj h.2.1, mkL_inj h.2.2⟩
theorem same2F_refl (i : Int) (L P : List (List UInt8)) : same2F i i L L P P = true := by unfold same2F sameF; simp
set_option maxRecDepth 100000 in
set_option maxHeartbeats 2000000 in
theorem same2_any (i j : Int) (A1 A2 A3 A4 : Option Addr) (c1 c2 c3 c4 : Nat) (L1 L2 P1 P2 : List (List UInt8)) (w : World) (hL1 : L1.length ≤ 1000) (hL2 : L2.length ≤ 1000) (hP1 : P1.length ≤ 1000) (hP2 : P2.length ≤ 1000) (r1 : Rd w A1 (sv L1)) (r2 : Rd w A2 (sv P1)) (r3 : Rd w A3 (sv L2)) (r4 : Rd w A4 (sv P2)) :
    Calls Tryd.prog 17 #[.agg #[.int .i64 i, .slice A1 L1.length c1, .slice A2 P1.length c2], .agg #[.int .i64 j, .slice A3 L2.length c3, .slice A4 P2.length c4]] w fun e w' => e = .returned (.bool (same2F i j L1 L2 P1 P2)) ∧ Below w.heap.size w w' := by
  have SL : Hid (∀ u, Below w.heap.size w u → Calls Tryd.prog 21 #[.slice A1 L1.length c1, .slice A3 L2.length c3] u fun e w' => e = .returned (.bool (sameF (mkL L1) (mkL L2))) ∧ Dr u w') := Lib.hid (fun u hu => same_any A1 A3 c1 c3 (mkL L1) (mkL L2) L1.length L2.length u (mkL_len L1).symm (mkL_len L2).symm (by rw [mkL_len]; omega) (by rw [mkL_len]; omega) (r1.below hu) (r3.below hu))
  have SP : Hid (∀ u, Below w.heap.size w u → Calls Tryd.prog 21 #[.slice A2 P1.length c2, .slice A4 P2.length c4] u fun e w' => e = .returned (.bool (sameF (mkL P1) (mkL P2))) ∧ Dr u w') := Lib.hid (fun u hu => same_any A2 A4 c2 c4 (mkL P1) (mkL P2) P1.length P2.length u (mkL_len P1).symm (mkL_len P2).symm (by rw [mkL_len]; omega) (by rw [mkL_len]; omega) (r2.below hu) (r4.below hu))
  have EF : Hid (same2F i j L1 L2 P1 P2 = (decide (i = j) && (sameF (mkL L1) (mkL L2) && sameF (mkL P1) (mkL P2)))) := Lib.hid rfl
  clear r1 r2 r3 r4
  generalize same2F i j L1 L2 P1 P2 = R at *
  generalize sameF (mkL L1) (mkL L2) = q1 at *
  generalize sameF (mkL P1) (mkL P2) = q2 at *
  generalize L1.length = n1 at *
  generalize P1.length = n2 at *
  generalize L2.length = n3 at *
  generalize P2.length = n4 at *
  have B2 : Hid (Below w.heap.size w ((w.alloc (.cells #[.int .i64 i, .slice A1 n1 c1, .slice A2 n2 c2] 24)).alloc (.cells #[.int .i64 j, .slice A3 n3 c3, .slice A4 n4 c4] 24))) := Lib.hid (((Below.refl _ _).alloc (Nat.le_refl _) _).alloc (by simp) _)
  by_cases hij : i = j
  · have ER : Hid (R = (q1 && q2)) := Lib.hid (by rw [EF.out, decide_eq_true hij, Bool.true_and])
    have ei : (i == j) = true := by simpa using hij
    clear hij EF
    go_enter Tryd.func17, Tryd.ntmps17
    go_wp2_with fail
    refine (SL.out _ B2.out).mono ?_
    rintro e w2 ⟨rfl, hd⟩
    obtain ⟨k, rfl⟩ := hd
    cases q1 with
    | false =>
      go_wp2_with fail
      go_ret
      exact ⟨by rw [ER.out]; rfl, below_drewN B2.out k⟩
    | true =>
      go_wp2_with fail
      refine (SP.out _ (below_drewN B2.out k)).mono ?_
      rintro e w3 ⟨rfl, hd⟩
      have B3 := Lib.hid ((below_drewN B2.out k).trans (hd.below _)); clear hd
      go_wp2_with fail
      go_ret
      exact ⟨by rw [ER.out]; rfl, B3.out⟩
  · have ER : Hid (R = false) := Lib.hid (by rw [EF.out, decide_eq_false hij, Bool.false_and])
    have ei : (i == j) = false := by simpa using hij
    clear hij EF
    go_enter Tryd.func17, Tryd.ntmps17
    go_wp2_with fail
    go_ret
    exact ⟨by rw [ER.out]; rfl, B2.out⟩
/-! Shown -/
theorem inj_of {L : List (List UInt8)} (h : ∀ i, i < L.length → ∀ k, k < i → Dg.sumL (L.getD i []) = Dg.sumL (L.getD k []) → L.getD i [] = L.getD k []) : Sl.Inj L := by
  intro a ha b hb e
  obtain ⟨i, hi, rfl⟩ := List.mem_iff_getElem.1 ha
  obtain ⟨k, hk, rfl⟩ := List.mem_iff_getElem.1 hb
  have g1 : L.getD i [] = L[i] := by rw [List.getD_eq_getElem?_getD, List.getElem?_eq_getElem hi]; rfl
  have g2 : L.getD k [] = L[k] := by rw [List.getD_eq_getElem?_getD, List.getElem?_eq_getElem hk]; rfl
  rcases Nat.lt_trichotomy i k with h1 | rfl | h1
  · have := h k hk i h1 (by rw [g1, g2]; exact e.symm)
    rw [g1, g2] at this; exact this.symm
  · rfl
  · have := h i hi k h1 (by rw [g1, g2]; exact e)
    rw [g1, g2] at this; exact this
theorem sums_step {L : List (List UInt8)} {k : Nat} (hk : k < L.length) : sv ((L.map Dg.sumL).take (k + 1)) = sv ((L.map Dg.sumL).take k) ++ [.string (mkB (Dg.sumL (L.getD k [])))] := by
  rw [← sv_one, ← sv_app]
  congr 1
  rw [List.take_succ_eq_append_getElem (by rw [List.length_map]; exact hk)]
  congr 1
  simp [List.getD_eq_getElem?_getD, hk]
theorem sums_at {L : List (List UInt8)} {i : Nat} (h : i < L.length) : (sv (L.map Dg.sumL))[i]? = some (.string (mkB (Dg.sumL (L.getD i [])))) := by
  rw [sv_at (by rw [List.length_map]; exact h), List.getElem_map, List.getD_eq_getElem?_getD, List.getElem?_eq_getElem h]; rfl
set_option maxRecDepth 100000 in
set_option maxHeartbeats 4000000 in
theorem shown_any (A : Option Addr) (n c : Nat) (L : List (List UInt8)) (w : World) (hn : n = L.length) (hl : L.length ≤ 1000000) (hs : ∀ t ∈ L, t.length ≤ 1000000) (h : Rd w A (sv L)) (hI : ¬ Sl.Inj L) :
    Calls Tryd.prog 22 #[.slice A n c] w fun e w' => e = .returned (.bool true) ∧ Below w.heap.size w w' := by
  subst hn
  have H := Lib.hid h; clear h
  have HI := Lib.hid hI; clear hI
  have HS : Hid (∀ i, (L.getD i []).length ≤ 1000000) := Lib.hid (fun i => by
    rw [List.getD_eq_getElem?_getD]
    cases e : L[i]? with
    | none => simp
    | some t => exact hs t (List.mem_of_getElem? e))
  clear hs
  obtain ⟨B, hB⟩ : ∃ B, w.heap.size = B := ⟨_, rfl⟩
  have HW : Hid (B = w.heap.size) := Lib.hid hB.symm
  have HB : Hid (Below B w w) := Lib.hid (Below.refl _ _)
  clear hB
  go_enter Tryd.func22, Tryd.ntmps22
  go_wp2_with fail
  go_loopw [3, 4] (fun v i' wr => ∃ k : Nat, k ≤ L.length ∧ i' = .int .i64 k ∧ Hid (wr.ownsRow B 9 1 v k (sv ((L.map Dg.sumL).take k))) ∧ Hid (Below B w wr)) (fun _ i' _ => L.length - (intOf i').toNat)
  case atStart => exact ⟨0, by omega, rfl, Lib.hid (World.ownsRow_nil _ _ _ _), HB⟩
  case round =>
    clear HB
    obtain ⟨k, hk, rfl, hown, hbl⟩ := hrel
    have hsz : B ≤ wr.heap.size := by have := hbl.out.size; rw [HW.out]; exact this
    obtain ⟨A5, c5, rfl, -, -⟩ := own_form hown.out
    by_cases hlt : k < L.length
    · have SS := Lib.hid (sums_step hlt)
      obtain ⟨b, off, rfl, hb, hcell⟩ := H.out (by rw [sv_len]; omega)
      rw [← HW.out] at hb
      have ea := (hbl.out.cell (p := ⟨b, off + k, none⟩) hb).trans (hcell k _ (getD_at hlt))
      have la := HS.out k
      clear hcell
      generalize L.getD k [] = y at *
      have SA := Lib.hid (fun u => rsumT_any (mkB y) u (by rw [mkB_size]; exact la))
      rw [mkB_list] at SA
      generalize Dg.sumL y = d at *
      clear la
      have i1 : (k : Int) < (L.length : Int) := by omega
      go_wp2_with fail
      refine (SA.out _).mono ?_
      rintro e w1 ⟨rfl, rfl⟩
      go_wp2_with (at_builtin; refine wpList_app1 rfl (.tmp 13) (.tmp 19) 22 rfl Tryd.underlying22 info_str rfl (by decide) B (.slice A5 _ c5) _ _ wr #[.string (mkB d)] rfl ?c1 rfl rfl rfl hown.out hsz ?c2 ?c3 ?_)
      case c1 => simp [Value.oneCell']
      case c2 => omega
      case c3 => omega
      intro v2 w3 hown2 hb3
      have HO2 : Hid (w3.ownsRow B 9 1 v2 (k + 1) (sv ((L.map Dg.sumL).take (k + 1)))) := Lib.hid (by rw [SS.out]; exact hown2)
      have HB3 : Hid (Below B w w3) := Lib.hid (hbl.out.trans hb3)
      clear hown2 hb3
      go_wp2_with fail
      exact ⟨⟨k + 1, hlt, by go_num, HO2, HB3⟩, by simp [intOf]; omega⟩
    · have hkn : k = L.length := by omega
      subst hkn
      have i1 : ¬ (L.length : Int) < (L.length : Int) := by omega
      have RS : Hid (Rd wr A5 (sv (L.map Dg.sumL))) := Lib.hid (by
        have := Rd.of_own hown.out
        rwa [List.take_of_length_le (by rw [List.length_map]; exact Nat.le_refl _)] at this)
      have RL := Lib.hid (H.out.below (HW.out ▸ hbl.out))
      obtain ⟨W, hW⟩ : ∃ W, W = wr := ⟨_, rfl⟩
      rw [← hW] at RS RL hbl ⊢
      clear hW hown hsz
      obtain ⟨n, hn⟩ : ∃ n, L.length = n := ⟨_, rfl⟩
      have HN := Lib.hid hn
      rw [hn] at hl i1 ⊢
      clear hn hk
      go_wp2_with fail
      clear i1
      go_loopw [5] (fun i' wr => ∃ p : Nat, p ≤ n ∧ i' = .int .i64 p ∧ Hid (∀ i, i < p → ∀ k, k < i → Dg.sumL (L.getD i []) = Dg.sumL (L.getD k []) → L.getD i [] = L.getD k []) ∧ Dr W wr) (fun i' _ => n - (intOf i').toNat)
      case atStart => exact ⟨0, by omega, rfl, Lib.hid (fun i hi => by omega), dr0⟩
      case round =>
        obtain ⟨p, hp, rfl, hno, hdr⟩ := hrel
        by_cases hpl : p < n
        · have i1 : (p : Int) < (n : Int) := by omega
          obtain ⟨wo, hwo⟩ : ∃ wo, wo = wr := ⟨_, rfl⟩
          rw [← hwo] at hdr ⊢
          clear hwo
          have HD := Lib.hid hdr; clear hdr
          go_wp2_with fail
          go_loopw [6] (fun i' wr => ∃ q : Nat, q ≤ p ∧ i' = .int .i64 q ∧ Hid (∀ k, k < q → Dg.sumL (L.getD p []) = Dg.sumL (L.getD k []) → L.getD p [] = L.getD k []) ∧ Dr W wr) (fun i' _ => p - (intOf i').toNat)
          case atStart => exact ⟨0, by omega, rfl, Lib.hid (fun i hi => by omega), HD.out⟩
          case round =>
            clear HD
            obtain ⟨q, hq, rfl, hnk, nq, rfl⟩ := hrel
            by_cases hqp : q < p
            · have i2 : (q : Int) < (p : Int) := by omega
              have i3 : (q : Int) < (n : Int) := by omega
              obtain ⟨b1, o1, rfl, hb1, hc1⟩ := RS.out (by rw [sv_len, List.length_map, HN.out]; omega)
              obtain ⟨b2, o2, rfl, hb2, hc2⟩ := RL.out (by rw [sv_len, HN.out]; omega)
              have e1 := hc1 p _ (sums_at (by rw [HN.out]; exact hpl))
              have e2 := hc1 q _ (sums_at (by rw [HN.out]; omega))
              have e3 := hc2 p _ (getD_at (by rw [HN.out]; exact hpl))
              have e4 := hc2 q _ (getD_at (by rw [HN.out]; omega))
              clear hc1 hc2
              have EP : Hid (∀ x y, L.getD p [] = x → L.getD q [] = y → (Dg.sumL x = Dg.sumL y → x = y) → ∀ k, k < q + 1 → Dg.sumL (L.getD p []) = Dg.sumL (L.getD k []) → L.getD p [] = L.getD k []) := Lib.hid (fun x y hx hy h k hk => by
                rcases Nat.lt_succ_iff_lt_or_eq.1 hk with h1 | rfl
                · exact hnk.out k h1
                · rw [hx, hy]; exact h)
              obtain ⟨x, hx⟩ : ∃ x, L.getD p [] = x := ⟨_, rfl⟩
              obtain ⟨y, hy⟩ : ∃ y, L.getD q [] = y := ⟨_, rfl⟩
              have HX := Lib.hid hx; have HY := Lib.hid hy
              rw [hx] at e1 e3; rw [hy] at e2 e4
              clear hx hy hnk
              by_cases hd : Dg.sumL x = Dg.sumL y
              · have f1 := str_eq_t (congrArg mkB hd)
                have HDD := Lib.hid hd; clear hd
                generalize Dg.sumL x = dx at *
                generalize Dg.sumL y = dy at *
                by_cases hxy : x = y
                · have f2 := str_eq_t (congrArg mkB hxy)
                  have NX := Lib.hid (EP.out x y HX.out HY.out (fun _ => hxy))
                  clear hxy
                  go_wp2_with fail
                  go_quiet (fail)
                  go_wp2_with fail
                  exact ⟨⟨q + 1, hqp, by go_num, NX, by first | exact dr1 | exact dr2⟩, by simp [intOf]; omega⟩
                · have f2 := str_eq_f (fun e => hxy (mkB_inj e))
                  clear hxy
                  have BW := Lib.hid hbl.out
                  go_wp2_with fail
                  go_quiet (fail)
                  go_wp2_with fail
                  go_ret
                  exact ⟨rfl, HW.out ▸ (by first | exact below_drewN BW.out _ | exact below_drewN (below_drewN BW.out _) _)⟩
              · have f1 := str_eq_f (fun e => hd (mkB_inj e))
                have NX := Lib.hid (EP.out x y HX.out HY.out (fun e => absurd e hd))
                clear hd
                generalize Dg.sumL x = dx at *
                generalize Dg.sumL y = dy at *
                go_wp2_with fail
                go_quiet (fail)
                go_wp2_with fail
                exact ⟨⟨q + 1, hqp, by go_num, NX, by first | exact dr1 | exact dr2⟩, by simp [intOf]; omega⟩
            · obtain rfl : q = p := by omega
              have i2 : ¬ (q : Int) < (q : Int) := by omega
              have NX : Hid (∀ i, i < q + 1 → ∀ k, k < i → Dg.sumL (L.getD i []) = Dg.sumL (L.getD k []) → L.getD i [] = L.getD k []) := Lib.hid (fun i hi k hk => by
                rcases Nat.lt_succ_iff_lt_or_eq.1 hi with h1 | rfl
                · exact hno.out i h1 k hk
                · exact hnk.out k hk)
              clear hnk hno
              go_wp2_with fail
              exact ⟨⟨q + 1, hpl, by go_num, NX, dr1⟩, by simp [intOf]; omega⟩
        · have hpn : p = n := by omega
          exact absurd (inj_of (L := L) (by rw [HN.out, ← hpn]; exact hno.out)) HI.out
end Go.Proofs.YthceonkdmcidcaaDoor
