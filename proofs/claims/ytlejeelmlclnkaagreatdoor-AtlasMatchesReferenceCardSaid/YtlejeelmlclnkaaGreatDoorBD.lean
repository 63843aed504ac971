/- WALKS: tag.Valid; object.word, least, on. -/
import Derived.Test.YtlejeelmlclnkaaGreatDoorBC
set_option linter.unusedSimpArgs false
set_option linter.unusedVariables false
namespace Go.Proofs.YtlejeelmlclnkaaGreatDoor
open Go.RowKit

theorem lt_leq (a b : Tx) : (Op.bytesLess a b || a == b) = !At.lt b a := by
  by_cases h : a = b
  · subst h
    rw [At.lt_irrefl]; simp
  · have e : (a == b) = false := by simpa using h
    rw [e, Bool.or_false]
    rcases At.lt_total h with k | k
    · rw [At.lt_asymm k]; exact k
    · rw [k]; exact At.lt_asymm k
theorem lt_facts (a b : Tx) : (At.lt b a = true ∧ Op.bytesLess a b = false ∧ (a == b) = false) ∨ (At.lt b a = false ∧ Op.bytesLess a b = true ∧ (a == b) = false) ∨ (At.lt b a = false ∧ Op.bytesLess a b = false ∧ (a == b) = true) := by
  by_cases h : a = b
  · subst h
    have := At.lt_irrefl a
    exact .inr (.inr ⟨this, this, by simp⟩)
  · have e : (a == b) = false := by simpa using h
    rcases At.lt_total h with k | k
    · exact .inr (.inl ⟨At.lt_asymm k, k, e⟩)
    · exact .inl ⟨k, At.lt_asymm k, e⟩
theorem tagsFrom_drop (l : List (Tx × Tx)) (last : Tx) {k : Nat} (h : k < l.length) :
    At.tagsFrom last (l.drop k) = (At.nameB l[k].1 && At.lt last l[k].1 && decide (l[k].2 ≠ []) && decide (l[k].2.length ≤ 200) && At.tagsFrom l[k].1 (l.drop (k + 1))) := by
  rw [List.drop_eq_getElem_cons h, At.tagsFrom]
set_option maxHeartbeats 2000000 in
set_option maxRecDepth 100000 in
theorem tagv_any (A : Option Addr) (c : Nat) (l : List (Tx × Tx)) (n : Nat) (w : World) (hn : n = l.length) (hl : n ≤ 1000000) (hs : ∀ t ∈ l, t.1.length ≤ 9223372036854775807 ∧ t.2.length ≤ 9223372036854775807) (h : Rd w A (tagsC l)) :
    Calls Tryz.prog 79 #[.slice A n c] w fun e w' => e = .returned (.bool (At.tagsB l)) ∧ Below w.heap.size w w' := by
  have H := Lib.hid h; clear h
  have HS := Lib.hid hs; clear hs
  have HN := Lib.hid hn; clear hn
  obtain ⟨R, hR⟩ : ∃ R, At.tagsB l = R := ⟨_, rfl⟩
  have HR : Hid (R = (At.tagsFrom [] l && decide (n ≤ 60))) := Lib.hid (by rw [← hR, HN.out]; rfl)
  rw [hR]
  clear hR
  have HB : Hid (Below w.heap.size w w) := Lib.hid (Below.refl _ _)
  have te := mkB_tl []
  have em : (ByteArray.mk #[]) = mkB [] := rfl
  go_enter Tryz.func79, Tryz.ntmps79
  go_wp2_with fail
  try rw [em]
  go_loopw [3, 5, 8] (fun s3 s5 s8 wr => ∃ (k : Nat) (last : Tx), k ≤ n ∧ s8 = .int .i64 (k : Int) ∧ s3 = .string (mkB last) ∧ (∃ p, s5 = p) ∧ Hid (R = (At.tagsFrom last (l.drop k) && decide (n ≤ 60))) ∧ Hid (Below w.heap.size w wr)) (fun _ _ i _ => n - (intOf i).toNat)
  case atStart => exact ⟨0, [], Nat.zero_le _, rfl, rfl, ⟨_, rfl⟩, HR, HB⟩
  case round =>
    clear HB HR
    obtain ⟨k, last, hk, rfl, rfl, ⟨p5, rfl⟩, HR, BL⟩ := hrel
    have tl := mkB_tl last
    by_cases hlt : k < n
    · have hkl : k < l.length := by rw [← HN.out]; exact hlt
      have d1 : (k : Int) < (n : Int) := by omega
      have d2 : (0 : Int) ≤ (k : Int) := by omega
      obtain ⟨b, off, rfl, hb, c0, c1⟩ := tags_at (H.out.below BL.out) hkl
      have SZ := HS.out l[k] (List.getElem_mem hkl)
      have HD := Lib.hid (HR.out.trans (by rw [tagsFrom_drop l last hkl]))
      generalize l[k] = x at *
      obtain ⟨x1, x2⟩ := x
      dsimp only at c0 c1 SZ HD
      have t1 := mkB_tl x1
      have t2 := mkB_tl x2
      have m2 := mkB_len x2
      have NM := fun u => Lib.hid (name_any x1 u SZ.1)
      have BX := Lib.hid (BL.out.alloc BL.out.size (.cells #[.string (mkB x1), .string (mkB x2)] 94))
      have XX := Lib.hid (heap_alloc_new wr (.cells #[.string (mkB x1), .string (mkB x2)] 94))
      clear HR
      go_wp2_with fail
      refine (NM _).out.mono ?_
      rintro e w1 ⟨rfl, b1⟩
      have B1 := Lib.hid (BX.out.trans (b1.mono BX.out.size))
      have x1c := (b1.block wr.heap.size (by simp)).trans XX.out
      have z0 := cell_of_row w1 wr.heap.size 0 _ _ _ x1c
      have z1 := cell_of_row w1 wr.heap.size 1 _ _ _ x1c
      have zs : wr.heap.size < w1.heap.size := Nat.lt_of_lt_of_le (by simp) b1.size
      simp at z0 z1
      clear b1 x1c XX BX NM
      cases hN : At.nameB x1
      · have RF : Hid (R = false) := Lib.hid (by rw [HD.out, hN]; rfl)
        clear HD
        go_wp2_with fail
        go_ret
        exact ⟨by rw [RF.out]; rfl, B1.out⟩
      · rcases lt_facts x1 last with ⟨f1, f2, f3⟩ | ⟨f1, f2, f3⟩ | ⟨f1, f2, f3⟩
        · by_cases hv : x2 = []
          · have e1 : (x2 == []) = true := by rw [hv]; rfl
            have RF : Hid (R = false) := Lib.hid (by rw [HD.out, hN, f1, hv]; rfl)
            clear HD hv f1
            go_wp2_with fail
            go_ret
            exact ⟨by rw [RF.out]; rfl, B1.out⟩
          · have e1 : (x2 == []) = false := by simpa using hv
            by_cases h2 : x2.length ≤ 200
            · have HD2 : Hid (R = (At.tagsFrom x1 (l.drop (k + 1)) && decide (n ≤ 60))) := Lib.hid (by rw [HD.out, hN, f1, decide_eq_true hv, decide_eq_true h2]; rfl)
              obtain ⟨m, hm⟩ : ∃ m, x2.length = m := ⟨_, rfl⟩
              rw [hm] at m2 h2
              have g1 : decide ((200 : Int) < (m : Int)) = false := by simp; omega
              have g2 : decide (200 < m) = false := by simp; omega
              clear HD hv f1 hm
              go_wp2_with fail
              exact ⟨⟨k + 1, x1, by omega, by go_num, rfl, ⟨_, rfl⟩, HD2, B1⟩, by simp [intOf]; omega⟩
            · have RF : Hid (R = false) := Lib.hid (by rw [HD.out, hN, f1, decide_eq_false h2]; simp)
              obtain ⟨m, hm⟩ : ∃ m, x2.length = m := ⟨_, rfl⟩
              rw [hm] at m2 h2
              have g1 : decide ((200 : Int) < (m : Int)) = true := by simp; omega
              have g2 : decide (200 < m) = true := by simp; omega
              clear HD hv f1 hm
              go_wp2_with fail
              go_ret
              exact ⟨by rw [RF.out]; rfl, B1.out⟩
        · have RF : Hid (R = false) := Lib.hid (by rw [HD.out, hN, f1]; rfl)
          clear HD f1
          go_wp2_with fail
          go_ret
          exact ⟨by rw [RF.out]; rfl, B1.out⟩
        · have RF : Hid (R = false) := Lib.hid (by rw [HD.out, hN, f1]; rfl)
          clear HD f1
          go_wp2_with fail
          go_ret
          exact ⟨by rw [RF.out]; rfl, B1.out⟩
    · have d1 : ¬ (k : Int) < (n : Int) := by omega
      have RT : Hid (R = decide (n ≤ 60)) := Lib.hid (by
        rw [HR.out, List.drop_eq_nil_of_le (by rw [← HN.out]; omega)]; rfl)
      clear HR
      by_cases n60 : n ≤ 60
      · have d3 : (n : Int) ≤ 60 := by omega
        go_wp2_with fail
        go_ret
        exact ⟨by rw [RT.out, decide_eq_true n60]; rfl, BL.out⟩
      · have d3 : decide ((n : Int) ≤ 60) = false := by simp; omega
        have d4 : decide (n ≤ 60) = false := by simp; omega
        go_wp2_with fail
        go_ret
        exact ⟨by rw [RT.out, d4]; rfl, BL.out⟩
def wordF (k : Int) : Tx := if k = 1 then [110, 111, 100, 101] else if k = 2 then [119, 97, 121] else if k = 3 then [97, 114, 101, 97] else if k = 4 then [114, 111, 117, 116, 101] else if k = 5 then [116, 117, 114, 110] else []
theorem word_out {k : Int} (h : At.kindB k = false) : wordF k = [] := by
  unfold At.kindB at h
  have : ¬ (1 ≤ k ∧ k ≤ 5) := fun ⟨h1, h2⟩ => by rw [decide_eq_true h1, decide_eq_true h2] at h; cases h
  unfold wordF
  rw [if_neg (by omega), if_neg (by omega), if_neg (by omega), if_neg (by omega), if_neg (by omega)]
set_option maxHeartbeats 2000000 in
set_option maxRecDepth 100000 in
theorem word_any (k : Int) (w : World) :
    Calls Tryz.prog 77 #[.int .i64 k] w fun e w' => e = .returned (.string (mkB (wordF k))) ∧ Below w.heap.size w w' := by
  by_cases h0 : k < 0
  · have WF : Hid (wordF k = []) := Lib.hid (word_out (by unfold At.kindB; rw [decide_eq_false (show ¬ 1 ≤ k by omega)]; rfl))
    go_enter Tryz.func77, Tryz.ntmps77
    go_wp2_with fail
    go_ret
    exact ⟨by rw [WF.out]; rfl, (Below.refl _ _).alloc (Nat.le_refl _) _⟩
  · by_cases h6 : 6 ≤ k
    · have WF : Hid (wordF k = []) := Lib.hid (word_out (by unfold At.kindB; rw [decide_eq_false (show ¬ k ≤ 5 by omega)]; simp))
      have g1 : decide (k < 0) = false := by simpa using h0
      have g2 : decide (6 ≤ k) = true := by simpa using h6
      clear h0 h6
      go_enter Tryz.func77, Tryz.ntmps77
      go_wp2_with fail
      go_ret
      exact ⟨by rw [WF.out]; rfl, (Below.refl _ _).alloc (Nat.le_refl _) _⟩
    · rcases (show k = 0 ∨ k = 1 ∨ k = 2 ∨ k = 3 ∨ k = 4 ∨ k = 5 by omega) with rfl | rfl | rfl | rfl | rfl | rfl
      all_goals
        clear h0 h6
        go_enter Tryz.func77, Tryz.ntmps77
        go_wp2_with fail
        go_ret
        exact ⟨rfl, (Below.refl _ _).alloc (Nat.le_refl _) _⟩
theorem run_index_row {P : Program} (t e : TypeId) (n : Nat) (cs : Array Value) (k : IntKind) (j : Nat) (v : Value) (w : World) (h : P.underlying t = some (.array n e)) (hj : j < n) (ha : ∀ w, (isAgg e).run P w = .ok false w) (hs : ∀ w, (sizeOf e).run P w = .ok 1 w) (hv : cs[j]? = some v) :
    (Instr.index t (.agg cs) (.int k (j : Int))).run P w = .ok v w := by
  have h1 : (0 : Int) ≤ (j : Int) ∧ (j : Int) < (n : Int) := by omega
  simp [Instr.index, run_underlying h, asIntOf, h1, part, hs, ha, hv, go_sem]
  intro hc; omega
def leastRow : Array Value := #[.int .i64 0, .int .i64 0, .int .i64 2, .int .i64 3, .int .i64 1, .int .i64 3]
theorem least_index (j : Nat) (h : j < 6) (w : World) : (Instr.index 137 (.agg leastRow) (.int .i64 (j : Int))).run Tryz.prog w = .ok (leastRow[j]'h) w :=
  run_index_row 137 3 6 leastRow .i64 j _ w Tryz.underlying137 h Tryz.isAgg3 Tryz.sizeOf3 (Array.getElem?_eq_getElem h)
set_option maxHeartbeats 2000000 in
set_option maxRecDepth 100000 in
theorem least_any (k : Int) (w : World) (h : At.kindB k = true) :
    Calls Tryz.prog 80 #[.int .i64 k] w fun e w' => e = .returned (.int .i64 (At.leastF k : Int)) ∧ w' = w := by
  unfold At.kindB at h
  simp only [Bool.and_eq_true, decide_eq_true_eq] at h
  obtain ⟨j, hj, h6, hv⟩ : ∃ j : Nat, k = (j : Int) ∧ ∃ h6 : j < 6, leastRow[j]'h6 = .int .i64 (At.leastF k : Int) := by
    rcases (show k = 1 ∨ k = 2 ∨ k = 3 ∨ k = 4 ∨ k = 5 by omega) with rfl | rfl | rfl | rfl | rfl
    · exact ⟨1, rfl, by decide, rfl⟩
    · exact ⟨2, rfl, by decide, rfl⟩
    · exact ⟨3, rfl, by decide, rfl⟩
    · exact ⟨4, rfl, by decide, rfl⟩
    · exact ⟨5, rfl, by decide, rfl⟩
  have IX := least_index j h6 w
  rw [hv, ← hj] at IX
  unfold leastRow at IX
  clear hv hj h6 h
  go_enter Tryz.func80, Tryz.ntmps80
  go_wp2_with fail
  go_ret
  exact ⟨rfl, rfl⟩
set_option maxHeartbeats 2000000 in
set_option maxRecDepth 100000 in
theorem on_any (x y : Int) (w : World) :
    Calls Tryz.prog 83 #[.agg #[.int .i64 x, .int .i64 y]] w fun e w' => e = .returned (.bool (At.onB x y)) ∧ Below w.heap.size w w' := by
  have BB := Lib.hid ((Below.refl w.heap.size w).alloc (Nat.le_refl _) (.cells #[.int .i64 x, .int .i64 y] 39))
  have OB : Hid (At.onB x y = (decide (0 ≤ x) && decide (x < 1048576) && decide (0 ≤ y) && decide (y < 1048576))) := Lib.hid rfl
  generalize At.onB x y = R at *
  cases h1 : decide (0 ≤ x)
  · rw [h1] at OB
    go_enter Tryz.func83, Tryz.ntmps83
    go_wp2_with fail
    go_ret
    exact ⟨by rw [OB.out]; rfl, BB.out⟩
  · cases h2 : decide (x < 1048576)
    · rw [h1, h2] at OB
      go_enter Tryz.func83, Tryz.ntmps83
      go_wp2_with fail
      go_ret
      exact ⟨by rw [OB.out]; rfl, BB.out⟩
    · cases h3 : decide (0 ≤ y)
      · rw [h1, h2, h3] at OB
        go_enter Tryz.func83, Tryz.ntmps83
        go_wp2_with fail
        go_ret
        exact ⟨by rw [OB.out]; rfl, BB.out⟩
      · cases h4 : decide (y < 1048576)
        all_goals
          rw [h1, h2, h3, h4] at OB
          go_enter Tryz.func83, Tryz.ntmps83
          go_wp2_with fail
          go_ret
          exact ⟨by rw [OB.out]; rfl, BB.out⟩
end Go.Proofs.YtlejeelmlclnkaaGreatDoor
