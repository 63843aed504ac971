/- WALKS: the reference's Few; the law's few. -/
import Derived.Test.YtlejeelmlclnkaaGreatDoorCA
set_option linter.unusedSimpArgs false
set_option linter.unusedVariables false
namespace Go.Proofs.YtlejeelmlclnkaaGreatDoor
open Go.RowKit

/-- sums of lengths that no machine holds count as none -/
def fewT (t : Tx × Tx) : Bool := decide (t.1.length + t.2.length ≤ 600) || decide (9223372036854775808 ≤ t.1.length + t.2.length)
def fewO (o : At.Ob) : Bool := decide (o.id.length ≤ 300) && decide (o.refs.length ≤ 40) && decide (o.tags.length ≤ 65) && o.refs.all (fun s => decide (s.length ≤ 300)) && o.tags.all fewT
set_option maxHeartbeats 4000000 in
set_option maxRecDepth 100000 in
theorem fewo_any (o : RO) (w : World) (h : ObIs w o) (hs : ∀ t ∈ o.c.tags, t.1.length ≤ 9223372036854775807 ∧ t.2.length ≤ 9223372036854775807) :
    Calls Tryz.prog 26 #[roA o, .int .i64 40] w fun e w' => e = .returned (.bool (fewO o.c)) ∧ Below w.heap.size w w' := by
  obtain ⟨⟨A1, q1, v1, r1⟩, ⟨A2, q2, v2, r2⟩⟩ := h
  obtain ⟨W, hW⟩ : ∃ W, W = w.alloc (.cells #[.string (mkB o.c.id), .int .i64 o.c.kind, .int .i64 o.c.x, .int .i64 o.c.y, .slice A1 o.c.refs.length q1, .slice A2 o.c.tags.length q2] 43) := ⟨_, rfl⟩
  have HX : W.heap[w.heap.size]? = some (.cells #[.string (mkB o.c.id), .int .i64 o.c.kind, .int .i64 o.c.x, .int .i64 o.c.y, .slice A1 o.c.refs.length q1, .slice A2 o.c.tags.length q2] 43 (0, 0)) := by rw [hW]; exact heap_alloc_new w _
  have BW : Hid (Below w.heap.size w W) := Lib.hid (by rw [hW]; exact (Below.refl _ _).alloc (Nat.le_refl _) _)
  have CF : Hid (∀ u, Below W.heap.size W u → u.cell? ⟨w.heap.size, 0, none⟩ = some (.string (mkB o.c.id)) ∧ u.cell? ⟨w.heap.size, 3, none⟩ = some (.int .i64 o.c.y) ∧ u.cell? ⟨w.heap.size, 4, none⟩ = some (.slice A1 o.c.refs.length q1) ∧ u.cell? ⟨w.heap.size, 5, none⟩ = some (.slice A2 o.c.tags.length q2)) := Lib.hid (fun u hu => by
    have h0 := (hu.block w.heap.size (by rw [hW]; simp)).trans HX
    exact ⟨cell_of_row u _ 0 _ _ _ h0, cell_of_row u _ 3 _ _ _ h0, cell_of_row u _ 4 _ _ _ h0, cell_of_row u _ 5 _ _ _ h0⟩)
  obtain ⟨k0, k3, k4, k5⟩ := CF.out W (Below.refl _ _)
  have R1 := Lib.hid r1
  have R2 := Lib.hid r2
  have HS := Lib.hid hs
  have FO : Hid (fewO o.c = (decide (o.c.id.length ≤ 300) && decide (o.c.refs.length ≤ 40) && decide (o.c.tags.length ≤ 65) && o.c.refs.all (fun s => decide (s.length ≤ 300)) && o.c.tags.all fewT)) := Lib.hid rfl
  have mi := mkB_len o.c.id
  unfold roA
  rw [v1, v2]
  generalize fewO o.c = R at *
  obtain ⟨ni, hni⟩ : ∃ n, o.c.id.length = n := ⟨_, rfl⟩
  obtain ⟨nr, hnr⟩ : ∃ n, o.c.refs.length = n := ⟨_, rfl⟩
  obtain ⟨nt, hnt⟩ : ∃ n, o.c.tags.length = n := ⟨_, rfl⟩
  have HNr := Lib.hid hnr
  have HNt := Lib.hid hnt
  rw [hni] at mi FO
  rw [hnr] at FO
  rw [hnt] at FO
  simp only [hnr, hnt] at hW k4 k5 CF ⊢
  clear HX r1 r2 hs v1 v2 hni hnr hnt
  go_enter Tryz.func26, Tryz.ntmps26
  go_upto_region 1 with fail
  rw [← hW]
  clear hW
  by_cases c1 : ni ≤ 300
  · have e1 : decide ((300 : Int) < (ni : Int)) = false := by simp; omega
    have f1 : decide (300 < ni) = false := by simp; omega
    by_cases c2 : nr ≤ 40
    · have e2 : decide ((40 : Int) < (nr : Int)) = false := by simp; omega
      have f2 : decide (40 < nr) = false := by simp; omega
      by_cases c3 : nt ≤ 65
      · have e3 : decide ((65 : Int) < (nt : Int)) = false := by simp; omega
        have f3 : decide (65 < nt) = false := by simp; omega
        have S1 : Hid (R = ((o.c.refs.drop 0).all (fun s => decide (s.length ≤ 300)) && o.c.tags.all fewT)) := Lib.hid (by rw [FO.out, decide_eq_true c1, decide_eq_true c2, decide_eq_true c3]; rfl)
        have B0 : Hid (Below W.heap.size W W) := Lib.hid (Below.refl _ _)
        clear FO c1
        go_wp2_with fail
        go_loopw [5] (fun s5 wr => ∃ k : Nat, k ≤ nr ∧ s5 = .int .i64 (k : Int) ∧ Hid (R = ((o.c.refs.drop k).all (fun s => decide (s.length ≤ 300)) && o.c.tags.all fewT)) ∧ Hid (Below W.heap.size W wr)) (fun i _ => nr - (intOf i).toNat)
        case atStart => exact ⟨0, Nat.zero_le _, rfl, S1, B0⟩
        case round =>
          clear S1 B0 k0 k3 k4 k5 mi
          obtain ⟨k, hk, rfl, S1, BL⟩ := hrel
          obtain ⟨k0, k3, k4, k5⟩ := CF.out wr BL.out
          have BL2 := Lib.hid (BW.out.trans (Below.mono BL.out BW.out.size))
          by_cases hlt : k < nr
          · have hkl : k < o.c.refs.length := by rw [HNr.out]; exact hlt
            have d1 : (k : Int) < (nr : Int) := by omega
            have d2 : (0 : Int) ≤ (k : Int) := by omega
            obtain ⟨b, off, rfl, hb, c0⟩ := strs_at (R1.out.below BL2.out) hkl
            have SD : Hid (R = ((decide (o.c.refs[k].length ≤ 300) && (o.c.refs.drop (k + 1)).all (fun s => decide (s.length ≤ 300))) && o.c.tags.all fewT)) := Lib.hid (S1.out.trans (by rw [List.drop_eq_getElem_cons hkl]; rfl))
            have mk := mkB_len o.c.refs[k]
            generalize o.c.refs[k] = s at *
            obtain ⟨m, hm⟩ : ∃ n, s.length = n := ⟨_, rfl⟩
            rw [hm] at mk SD
            clear hm S1
            by_cases cm : m ≤ 300
            · have g1 : decide ((300 : Int) < (m : Int)) = false := by simp; omega
              have g2 : decide (300 < m) = false := by simp; omega
              have S2 : Hid (R = ((o.c.refs.drop (k + 1)).all (fun s => decide (s.length ≤ 300)) && o.c.tags.all fewT)) := Lib.hid (by rw [SD.out, decide_eq_true cm]; rfl)
              clear SD cm
              go_wp2_with fail
              exact ⟨⟨k + 1, by omega, by go_num, S2, BL⟩, by simp [intOf]; omega⟩
            · have g1 : decide ((300 : Int) < (m : Int)) = true := by simp; omega
              have g2 : decide (300 < m) = true := by simp; omega
              have S2 : Hid (R = false) := Lib.hid (by rw [SD.out, decide_eq_false cm]; rfl)
              clear SD cm
              go_wp2_with fail
              go_ret
              exact ⟨by rw [S2.out]; rfl, BL2.out⟩
          · have d1 : ¬ (k : Int) < (nr : Int) := by omega
            have T1 : Hid (R = (o.c.tags.drop 0).all fewT) := Lib.hid (by rw [S1.out, List.drop_eq_nil_of_le (by rw [HNr.out]; omega)]; simp)
            clear S1
            go_wp2_with fail
            go_loopw [6] (fun s6 wq => ∃ j : Nat, j ≤ nt ∧ s6 = .int .i64 (j : Int) ∧ Hid (R = (o.c.tags.drop j).all fewT) ∧ Hid (Below W.heap.size W wq)) (fun i _ => nt - (intOf i).toNat)
            case atStart => exact ⟨0, Nat.zero_le _, rfl, T1, BL⟩
            case round =>
              clear T1 BL k0 k3 k4 k5 BL2
              obtain ⟨j, hj, rfl, T1, BL⟩ := hrel
              obtain ⟨k0, k3, k4, k5⟩ := CF.out wr BL.out
              have BL2 := Lib.hid (BW.out.trans (Below.mono BL.out BW.out.size))
              by_cases hltj : j < nt
              · have hjl : j < o.c.tags.length := by rw [HNt.out]; exact hltj
                have d3 : (j : Int) < (nt : Int) := by omega
                have d4 : (0 : Int) ≤ (j : Int) := by omega
                obtain ⟨b, off, rfl, hb, c0, c1⟩ := tags_at (R2.out.below BL2.out) hjl
                have SZ := HS.out o.c.tags[j] (List.getElem_mem hjl)
                have SD : Hid (R = (fewT o.c.tags[j] && (o.c.tags.drop (j + 1)).all fewT)) := Lib.hid (T1.out.trans (by rw [List.drop_eq_getElem_cons hjl]; rfl))
                generalize o.c.tags[j] = t at *
                obtain ⟨t1, t2⟩ := t
                dsimp only at c0 c1 SZ
                have m1 := mkB_len t1
                have m2 := mkB_len t2
                have FT : Hid (fewT (t1, t2) = (decide (t1.length + t2.length ≤ 600) || decide (9223372036854775808 ≤ t1.length + t2.length))) := Lib.hid rfl
                generalize fewT (t1, t2) = F at *
                obtain ⟨a, ha⟩ : ∃ n, t1.length = n := ⟨_, rfl⟩
                obtain ⟨bb, hbb⟩ : ∃ n, t2.length = n := ⟨_, rfl⟩
                rw [ha] at m1 SZ FT
                rw [hbb] at m2 SZ FT
                obtain ⟨sz1, sz2⟩ := SZ
                clear ha hbb T1
                obtain ⟨x, hx⟩ : ∃ x, IntKind.i64.wrap ((a : Int) + (bb : Int)) = x := ⟨_, rfl⟩
                by_cases cm : a + bb ≤ 600
                · have hx2 : x = (a : Int) + (bb : Int) := by rw [← hx]; exact IntWalk.i64_in _ (by omega)
                  have g1 : decide ((600 : Int) < x) = false := by simp; omega
                  have S2 : Hid (R = (o.c.tags.drop (j + 1)).all fewT) := Lib.hid (by rw [SD.out, FT.out, decide_eq_true cm]; rfl)
                  clear SD FT cm hx2 sz1 sz2
                  go_wp2_with fail
                  go_quiet (fail)
                  go_wp2_with fail
                  exact ⟨⟨j + 1, by omega, by go_num, S2, Lib.hid (belowNN BL.out _)⟩, by simp [intOf]; omega⟩
                · by_cases cn : 9223372036854775808 ≤ a + bb
                  · have hx2 : x = (a : Int) + (bb : Int) - 18446744073709551616 := by rw [← hx, IntKind.wrap_i64]; omega
                    have g1 : decide ((600 : Int) < x) = false := by simp; omega
                    have S2 : Hid (R = (o.c.tags.drop (j + 1)).all fewT) := Lib.hid (by rw [SD.out, FT.out, decide_eq_true cn, Bool.or_true, Bool.true_and])
                    clear SD FT cm cn hx2 sz1 sz2
                    go_wp2_with fail
                    go_quiet (fail)
                    go_wp2_with fail
                    exact ⟨⟨j + 1, by omega, by go_num, S2, Lib.hid (belowNN BL.out _)⟩, by simp [intOf]; omega⟩
                  · have hx2 : x = (a : Int) + (bb : Int) := by rw [← hx]; exact IntWalk.i64_in _ (by omega)
                    have g1 : decide ((600 : Int) < x) = true := by simp; omega
                    have S2 : Hid (R = false) := Lib.hid (by rw [SD.out, FT.out, decide_eq_false cm, decide_eq_false cn]; rfl)
                    clear SD FT cm cn hx2 sz1 sz2
                    go_wp2_with fail
                    go_quiet (fail)
                    go_wp2_with fail
                    go_ret
                    exact ⟨by rw [S2.out]; rfl, belowNN BL2.out _⟩
              · have d3 : ¬ (j : Int) < (nt : Int) := by omega
                have RT : Hid (R = true) := Lib.hid (by rw [T1.out, List.drop_eq_nil_of_le (by rw [HNt.out]; omega)]; rfl)
                clear T1
                go_wp2_with fail
                go_ret
                exact ⟨by rw [RT.out]; rfl, BL2.out⟩
      · have e3 : decide ((65 : Int) < (nt : Int)) = true := by simp; omega
        have f3 : decide (65 < nt) = true := by simp; omega
        have RF : Hid (R = false) := Lib.hid (by rw [FO.out, decide_eq_false c3]; simp)
        clear FO c1 c2 c3
        go_wp2_with fail
        go_ret
        exact ⟨by rw [RF.out]; rfl, BW.out⟩
    · have e2 : decide ((40 : Int) < (nr : Int)) = true := by simp; omega
      have f2 : decide (40 < nr) = true := by simp; omega
      have RF : Hid (R = false) := Lib.hid (by rw [FO.out, decide_eq_false c2]; simp)
      clear FO c1 c2
      go_wp2_with fail
      go_ret
      exact ⟨by rw [RF.out]; rfl, BW.out⟩
  · have e1 : decide ((300 : Int) < (ni : Int)) = true := by simp; omega
    have f1 : decide (300 < ni) = true := by simp; omega
    have RF : Hid (R = false) := Lib.hid (by rw [FO.out, decide_eq_false c1]; simp)
    clear FO c1
    go_wp2_with fail
    go_ret
    exact ⟨by rw [RF.out]; rfl, BW.out⟩
end Go.Proofs.YtlejeelmlclnkaaGreatDoor
