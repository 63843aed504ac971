/- WALKS: the reference's SamePoints, Same and Has of strings. -/
import Derived.Test.YtlejeelmlclnkaaGreatDoorBS
set_option linter.unusedSimpArgs false
set_option linter.unusedVariables false
namespace Go.Proofs.YtlejeelmlclnkaaGreatDoor
open Go.RowKit

theorem pts_at {w : World} {A : Option Addr} {l : List Pt2} (h : Rd w A (ptsC l)) {k : Nat} (hk : k < l.length) :
    ∃ b off, A = some ⟨b, off, none⟩ ∧ b < w.heap.size ∧ w.cell? ⟨b, off + k * 2, none⟩ = some (.int .i64 l[k].1) ∧ w.cell? ⟨b, off + k * 2 + 1, none⟩ = some (.int .i64 l[k].2) := by
  obtain ⟨b, off, e, hb, hc⟩ := h (by show 0 < (ptsC l).length; unfold ptsC; rw [flat_len ptC 2 (fun _ => rfl)]; omega)
  have g : ∀ f u, (ptC l[k])[f]? = some u → w.cell? ⟨b, off + (k * 2 + f), none⟩ = some u := fun f u hu => hc (k * 2 + f) u (flat_get ptC 2 (fun _ => rfl) hk hu)
  refine ⟨b, off, e, hb, g 0 _ rfl, ?_⟩
  have := g 1 _ rfl; rwa [← Nat.add_assoc] at this
set_option maxHeartbeats 800000 in
theorem rsames_any (A B : Option Addr) (c d : Nat) (l m : List Tx) (n1 n2 : Nat) (w : World) (hn1 : n1 = l.length) (hn2 : n2 = m.length) (hl : n1 ≤ 1000000) (hm : n2 ≤ 1000000) (h : Rd w A (strsC l)) (h2 : Rd w B (strsC m)) :
    Calls Tryz.prog 38 #[.slice A n1 c, .slice B n2 d] w fun e w' => e = .returned (.bool (decide (l = m))) ∧ Below w.heap.size w w' := by
  have H := Lib.hid h; clear h
  have H2 := Lib.hid h2; clear h2
  have HN := Lib.hid hn1
  have HM := Lib.hid hn2
  clear hn1 hn2
  obtain ⟨R, hR⟩ : ∃ R, decide (l = m) = R := ⟨_, rfl⟩
  have HR := Lib.hid hR
  rw [hR]
  clear hR
  have HB : Hid (Below w.heap.size w w) := Lib.hid (Below.refl _ _)
  by_cases hlen : n1 = n2
  · have hq : ((n1 : Int) != (n2 : Int)) = false := by rw [hlen]; simp
    have HL := Lib.hid hlen
    clear hlen
    go_enter Tryz.func38, Tryz.ntmps38
    go_wp2_with fail
    go_loopw [5] (fun i wr => ∃ k : Nat, k ≤ n1 ∧ i = .int .i64 (k : Int) ∧ Hid (∀ j (_ : j < k) (h : j < l.length) (h' : j < m.length), l[j] = m[j]) ∧ Hid (Below w.heap.size w wr)) (fun i _ => n1 - (intOf i).toNat)
    case atStart => exact ⟨0, Nat.zero_le _, rfl, Lib.hid (fun j h => absurd h (Nat.not_lt_zero _)), HB⟩
    case round =>
      clear HB
      obtain ⟨k, hk, rfl, AL, BL⟩ := hrel
      by_cases hlt : k < n1
      · have hkl : k < l.length := by rw [← HN.out]; exact hlt
        have hkm : k < m.length := by rw [← HM.out, ← HL.out]; exact hlt
        have d1 : (k : Int) < (n1 : Int) := by omega
        have d3 : (k : Int) < (n2 : Int) := by have := HL.out; omega
        have d2 : (0 : Int) ≤ (k : Int) := by omega
        obtain ⟨b, off, rfl, hb, c0⟩ := strs_at (H.out.below BL.out) hkl
        obtain ⟨b2, off2, rfl, hb2, c1⟩ := strs_at (H2.out.below BL.out) hkm
        have ALn : Hid (l[k] = m[k] → ∀ j (_ : j < k + 1) (h : j < l.length) (h' : j < m.length), l[j] = m[j]) := Lib.hid (fun hc j hj h h' => by
          rcases Nat.lt_succ_iff_lt_or_eq.1 hj with h1 | h1
          · exact AL.out j h1 h h'
          · subst h1; exact hc)
        have NE : Hid (l[k] ≠ m[k] → R = false) := Lib.hid (fun hc => by rw [← HR.out]; exact decide_eq_false (list_ne_at hkl hkm hc))
        have t1 := mkB_tl l[k]
        have t2 := mkB_tl m[k]
        generalize l[k] = x at *
        generalize m[k] = y at *
        by_cases he : x = y
        · have e1 : (x == y) = true := by rw [he]; simp
          have e2 : (x != y) = false := by rw [he]; simp
          have A2 := Lib.hid (ALn.out he)
          clear ALn NE he
          go_wp2_with fail
          go_quiet (fail)
          go_wp2_with fail
          exact ⟨⟨k + 1, by omega, by go_num, A2, Lib.hid (belowNN BL.out _)⟩, by simp [intOf]; omega⟩
        · have e1 : (x == y) = false := by simpa using he
          have e2 : (x != y) = true := by simpa using he
          have A2 := Lib.hid (NE.out he)
          clear ALn NE he
          go_wp2_with fail
          go_quiet (fail)
          go_wp2_with fail
          go_ret
          exact ⟨by rw [A2.out]; rfl, belowNN BL.out _⟩
      · have d1 : ¬ (k : Int) < (n1 : Int) := by omega
        have RT : Hid (R = true) := Lib.hid (by
          rw [← HR.out]
          exact decide_eq_true (List.ext_getElem (by rw [← HN.out, ← HM.out, HL.out]) (fun j h h' => AL.out j (by have := HN.out; omega) h h')))
        clear AL
        go_wp2_with fail
        go_ret
        exact ⟨by rw [RT.out]; rfl, BL.out⟩
  · have hq : ((n1 : Int) != (n2 : Int)) = true := by simp; omega
    have RF : Hid (R = false) := Lib.hid (by
      rw [← HR.out]
      exact decide_eq_false (fun e => hlen (by rw [HN.out, HM.out, e])))
    clear hlen
    go_enter Tryz.func38, Tryz.ntmps38
    go_wp2_with fail
    go_ret
    exact ⟨by rw [RF.out]; rfl, HB.out⟩
set_option maxHeartbeats 800000 in
theorem samePts_any (A B : Option Addr) (c d : Nat) (l m : List Pt2) (n1 n2 : Nat) (w : World) (hn1 : n1 = l.length) (hn2 : n2 = m.length) (hl : n1 ≤ 1000000) (hm : n2 ≤ 1000000) (h : Rd w A (ptsC l)) (h2 : Rd w B (ptsC m)) :
    Calls Tryz.prog 34 #[.slice A n1 c, .slice B n2 d] w fun e w' => e = .returned (.bool (decide (l = m))) ∧ Below w.heap.size w w' := by
  have H := Lib.hid h; clear h
  have H2 := Lib.hid h2; clear h2
  have HN := Lib.hid hn1
  have HM := Lib.hid hn2
  clear hn1 hn2
  obtain ⟨R, hR⟩ : ∃ R, decide (l = m) = R := ⟨_, rfl⟩
  have HR := Lib.hid hR
  rw [hR]
  clear hR
  have HB : Hid (Below w.heap.size w w) := Lib.hid (Below.refl _ _)
  by_cases hlen : n1 = n2
  · have hq : ((n1 : Int) != (n2 : Int)) = false := by rw [hlen]; simp
    have HL := Lib.hid hlen
    clear hlen
    go_enter Tryz.func34, Tryz.ntmps34
    go_wp2_with fail
    go_loopw [5] (fun i wr => ∃ k : Nat, k ≤ n1 ∧ i = .int .i64 (k : Int) ∧ Hid (∀ j (_ : j < k) (h : j < l.length) (h' : j < m.length), l[j] = m[j]) ∧ Hid (Below w.heap.size w wr)) (fun i _ => n1 - (intOf i).toNat)
    case atStart => exact ⟨0, Nat.zero_le _, rfl, Lib.hid (fun j h => absurd h (Nat.not_lt_zero _)), HB⟩
    case round =>
      clear HB
      obtain ⟨k, hk, rfl, AL, BL⟩ := hrel
      by_cases hlt : k < n1
      · have hkl : k < l.length := by rw [← HN.out]; exact hlt
        have hkm : k < m.length := by rw [← HM.out, ← HL.out]; exact hlt
        have d1 : (k : Int) < (n1 : Int) := by omega
        have d3 : (k : Int) < (n2 : Int) := by have := HL.out; omega
        have d2 : (0 : Int) ≤ (k : Int) := by omega
        obtain ⟨b, off, rfl, hb, c0, c1⟩ := pts_at (H.out.below BL.out) hkl
        obtain ⟨b2, off2, rfl, hb2, c2, c3⟩ := pts_at (H2.out.below BL.out) hkm
        have ALn : Hid (l[k] = m[k] → ∀ j (_ : j < k + 1) (h : j < l.length) (h' : j < m.length), l[j] = m[j]) := Lib.hid (fun hc j hj h h' => by
          rcases Nat.lt_succ_iff_lt_or_eq.1 hj with h1 | h1
          · exact AL.out j h1 h h'
          · subst h1; exact hc)
        have NE : Hid (l[k] ≠ m[k] → R = false) := Lib.hid (fun hc => by rw [← HR.out]; exact decide_eq_false (list_ne_at hkl hkm hc))
        have EE : Hid (l[k] = m[k] ↔ l[k].1 = m[k].1 ∧ l[k].2 = m[k].2) := Lib.hid Prod.ext_iff
        generalize l[k] = x at *
        generalize m[k] = y at *
        obtain ⟨x1, x2⟩ := x
        obtain ⟨y1, y2⟩ := y
        dsimp only at c0 c1 c2 c3 EE
        by_cases h1 : x1 = y1
        · have e1 : (x1 == y1) = true := by rw [h1]; simp
          by_cases h2 : x2 = y2
          · have e2 : (x2 == y2) = true := by rw [h2]; simp
            have A2 := Lib.hid (ALn.out (EE.out.2 ⟨h1, h2⟩))
            clear ALn NE EE h1 h2
            go_wp2_with fail
            go_quiet (fail)
            go_wp2_with fail
            exact ⟨⟨k + 1, by omega, by go_num, A2, Lib.hid (belowNN BL.out _)⟩, by simp [intOf]; omega⟩
          · have e2 : (x2 == y2) = false := by simpa using h2
            have A2 := Lib.hid (NE.out (fun e => h2 (EE.out.1 e).2))
            clear ALn NE EE h1 h2
            go_wp2_with fail
            go_quiet (fail)
            go_wp2_with fail
            go_ret
            exact ⟨by rw [A2.out]; rfl, belowNN BL.out _⟩
        · have e1 : (x1 == y1) = false := by simpa using h1
          have A2 := Lib.hid (NE.out (fun e => h1 (EE.out.1 e).1))
          clear ALn NE EE h1
          go_wp2_with fail
          go_quiet (fail)
          go_wp2_with fail
          go_ret
          exact ⟨by rw [A2.out]; rfl, belowNN BL.out _⟩
      · have d1 : ¬ (k : Int) < (n1 : Int) := by omega
        have RT : Hid (R = true) := Lib.hid (by
          rw [← HR.out]
          exact decide_eq_true (List.ext_getElem (by rw [← HN.out, ← HM.out, HL.out]) (fun j h h' => AL.out j (by have := HN.out; omega) h h')))
        clear AL
        go_wp2_with fail
        go_ret
        exact ⟨by rw [RT.out]; rfl, BL.out⟩
  · have hq : ((n1 : Int) != (n2 : Int)) = true := by simp; omega
    have RF : Hid (R = false) := Lib.hid (by
      rw [← HR.out]
      exact decide_eq_false (fun e => hlen (by rw [HN.out, HM.out, e])))
    clear hlen
    go_enter Tryz.func34, Tryz.ntmps34
    go_wp2_with fail
    go_ret
    exact ⟨by rw [RF.out]; rfl, HB.out⟩
set_option maxHeartbeats 1000000 in
theorem rhas_any (A : Option Addr) (n c : Nat) (l : List Tx) (s : Tx) (w : World) (hn : n = l.length) (hl : n ≤ 1000000) (h : Rd w A (strsC l)) :
    Calls Tryz.prog 45 #[.slice A n c, .string (mkB s)] w fun e w' => e = .returned (.bool (decide (s ∈ l))) ∧ Below w.heap.size w w' := by
  have H := Lib.hid h
  have HN := Lib.hid hn
  clear h hn
  have ts := mkB_tl s
  obtain ⟨R, hR⟩ : ∃ R, decide (s ∈ l) = R := ⟨_, rfl⟩
  have HR : Hid (R = decide (s ∈ l)) := Lib.hid hR.symm
  rw [hR]
  clear hR
  go_enter Tryz.func45, Tryz.ntmps45
  go_wp2_with fail
  go_loopw [5] (fun s8 wr => ∃ k : Nat, k ≤ n ∧ s8 = .int .i64 (k : Int) ∧ Hid (∀ i (h : i < l.length), i < k → l[i] ≠ s) ∧ Hid (Below w.heap.size w wr)) (fun i _ => n - (intOf i).toNat)
  case atStart => exact ⟨0, Nat.zero_le _, rfl, Lib.hid (fun i _ h => absurd h (Nat.not_lt_zero _)), Lib.hid (Below.refl _ _)⟩
  case round =>
    obtain ⟨k, hkn, rfl, AL, BL⟩ := hrel
    by_cases hlt : k < n
    · have hkl : k < l.length := by rw [← HN.out]; exact hlt
      have d1 : (k : Int) < (n : Int) := by omega
      have d2 : (0 : Int) ≤ (k : Int) := by omega
      obtain ⟨b, off, rfl, hbz, c0⟩ := strs_at (H.out.below BL.out) hkl
      have FT : Hid (l[k] = s → R = true) := Lib.hid (fun e => by rw [HR.out]; exact decide_eq_true (e ▸ List.getElem_mem hkl))
      have ALn : Hid (l[k] ≠ s → ∀ i (h : i < l.length), i < k + 1 → l[i] ≠ s) := Lib.hid (fun hne i hi hik => by
        rcases Nat.lt_succ_iff_lt_or_eq.1 hik with h1 | h1
        · exact AL.out i hi h1
        · subst h1; exact hne)
      have tk := mkB_tl l[k]
      generalize l[k] = x at *
      by_cases e : x = s
      · have e1 : (s == x) = true := by rw [e]; simp
        have e2 : (x == s) = true := by rw [e]; simp
        have R2 := Lib.hid (FT.out e)
        clear FT ALn e
        go_wp2_with fail
        go_ret
        exact ⟨by rw [R2.out]; rfl, BL.out⟩
      · have e1 : (s == x) = false := by simp; exact fun e' => e e'.symm
        have e2 : (x == s) = false := by simpa using e
        have A2 := Lib.hid (ALn.out e)
        clear FT ALn e
        go_wp2_with fail
        exact ⟨⟨k + 1, by omega, by go_num, A2, BL⟩, by simp [intOf]; omega⟩
    · have d1 : ¬ (k : Int) < (n : Int) := by omega
      have R2 : Hid (R = false) := Lib.hid (by
        rw [HR.out]
        exact decide_eq_false (fun hm => by
          obtain ⟨i, hi, e⟩ := List.mem_iff_getElem.1 hm
          exact AL.out i hi (by have := HN.out; omega) e))
      clear AL
      go_wp2_with fail
      go_ret
      exact ⟨by rw [R2.out]; rfl, BL.out⟩
end Go.Proofs.YtlejeelmlclnkaaGreatDoor
