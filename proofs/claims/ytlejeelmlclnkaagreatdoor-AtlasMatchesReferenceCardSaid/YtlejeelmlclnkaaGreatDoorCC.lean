/- WALKS: the reference's Few of maps; the law's few. -/
import Derived.Test.YtlejeelmlclnkaaGreatDoorCB
set_option linter.unusedSimpArgs false
set_option linter.unusedVariables false
namespace Go.Proofs.YtlejeelmlclnkaaGreatDoor
open Go.RowKit

/-- a list of objects, as an argument brings it -/
structure Mw (w : World) (A : Option Addr) (l : List RO) : Prop where
  rd : Rd w A (rosC l)
  ob : ∀ r ∈ l, ObIs w r
  tg : ∀ r ∈ l, ∀ t ∈ r.c.tags, t.1.length ≤ 9223372036854775807 ∧ t.2.length ≤ 9223372036854775807
theorem Mw.below {w w' : World} {A : Option Addr} {l : List RO} (h : Mw w A l) (hb : Below w.heap.size w w') : Mw w' A l := ⟨h.rd.below hb, fun r hr => (h.ob r hr).below hb, h.tg⟩
def fewM (l : List At.Ob) : Bool := decide (l.length ≤ 30) && l.all fewO
theorem few_sz {o : At.Ob} (h : fewO o = true) (ht : ∀ t ∈ o.tags, t.1.length ≤ 9223372036854775807 ∧ t.2.length ≤ 9223372036854775807) : ObSz o ∧ o.refs.length ≤ 100000 := by
  unfold fewO at h
  simp only [Bool.and_eq_true, decide_eq_true_eq, List.all_eq_true] at h
  obtain ⟨⟨⟨⟨h1, h2⟩, h3⟩, h4⟩, -⟩ := h
  exact ⟨⟨by omega, by omega, fun s hs => by have := h4 s hs; omega, by omega, ht⟩, by omega⟩
theorem Mw.ms {w : World} {A : Option Addr} {l : List RO} (h : Mw w A l) (hf : fewM (cts l) = true) : Ms w A l := by
  unfold fewM at hf
  rw [Bool.and_eq_true, decide_eq_true_eq, cts_len, List.all_eq_true] at hf
  exact ⟨h.rd, h.ob, fun r hr => few_sz (hf.2 r.c (List.mem_map.2 ⟨r, hr, rfl⟩)) (h.tg r hr), by omega⟩
theorem fewAll_drop (l : List RO) {k : Nat} (h : k < l.length) : (cts (l.drop k)).all fewO = (fewO l[k].c && (cts (l.drop (k + 1))).all fewO) := by
  rw [List.drop_eq_getElem_cons h]; rfl
set_option maxHeartbeats 4000000 in
set_option maxRecDepth 100000 in
theorem fewm_any (A : Option Addr) (n c : Nat) (l : List RO) (w : World) (hn : n = l.length) (hl : n ≤ 9223372036854775807) (h : Mw w A l) :
    Calls Tryz.prog 47 #[.agg #[.slice A n c], .int .i64 30] w fun e w' => e = .returned (.bool (fewM (cts l))) ∧ Below w.heap.size w w' := by
  obtain ⟨W, hW⟩ : ∃ W, W = w.alloc (.cells #[.slice A n c] 24) := ⟨_, rfl⟩
  have HX : W.heap[w.heap.size]? = some (.cells #[.slice A n c] 24 (0, 0)) := by rw [hW]; exact heap_alloc_new w _
  have BW : Hid (Below w.heap.size w W) := Lib.hid (by rw [hW]; exact (Below.refl _ _).alloc (Nat.le_refl _) _)
  have CF : Hid (∀ u, Below W.heap.size W u → u.cell? ⟨w.heap.size, 0, none⟩ = some (.slice A n c)) := Lib.hid (fun u hu => cell_of_row u _ 0 _ _ _ ((hu.block w.heap.size (by rw [hW]; simp)).trans HX))
  have k0 := CF.out W (Below.refl _ _)
  have H := Lib.hid h
  have HN := Lib.hid hn
  obtain ⟨R, hR⟩ : ∃ R, fewM (cts l) = R := ⟨_, rfl⟩
  have HR : Hid (R = (decide (n ≤ 30) && (cts (l.drop 0)).all fewO)) := Lib.hid (by rw [← hR, HN.out, ← cts_len]; rfl)
  rw [hR]
  clear HX h hn hR
  go_enter Tryz.func47, Tryz.ntmps47
  go_upto_region 1 with fail
  rw [← hW]
  clear hW
  by_cases c1 : n ≤ 30
  · have e1 : decide ((n : Int) ≤ 30) = true := by simp; omega
    have e2 : (n : Int) ≤ 30 := by omega
    have S1 : Hid (R = (cts (l.drop 0)).all fewO) := Lib.hid (by rw [HR.out, decide_eq_true c1]; rfl)
    have B0 : Hid (Below W.heap.size W W) := Lib.hid (Below.refl _ _)
    clear HR
    go_wp2_with fail
    go_loopw [5] (fun s5 wr => ∃ k : Nat, k ≤ n ∧ s5 = .int .i64 (k : Int) ∧ Hid (R = (cts (l.drop k)).all fewO) ∧ Hid (Below W.heap.size W wr)) (fun i _ => n - (intOf i).toNat)
    case atStart => exact ⟨0, Nat.zero_le _, rfl, S1, B0⟩
    case round =>
      clear S1 B0 k0
      obtain ⟨k, hk, rfl, S1, BL⟩ := hrel
      have k0 := CF.out wr BL.out
      have BL2 := Lib.hid (BW.out.trans (Below.mono BL.out BW.out.size))
      by_cases hlt : k < n
      · have hkl : k < l.length := by rw [← HN.out]; exact hlt
        have d1 : (k : Int) < (n : Int) := by omega
        have d2 : (0 : Int) ≤ (k : Int) := by omega
        obtain ⟨b, off, rfl, hb, c0, c1', c2, c3, c4, c5⟩ := ros_at (H.out.rd.below BL2.out) hkl
        have HO := H.out.ob l[k] (List.getElem_mem hkl)
        have HT := H.out.tg l[k] (List.getElem_mem hkl)
        have SD : Hid (R = (fewO l[k].c && (cts (l.drop (k + 1))).all fewO)) := Lib.hid (S1.out.trans (fewAll_drop l hkl))
        generalize l[k] = x at *
        have FW := Lib.hid (fewo_any x wr (HO.below BL2.out) HT)
        obtain ⟨A1, q1, v1, -⟩ := HO.rs
        obtain ⟨A2, q2, v2, -⟩ := HO.ts
        unfold roA at FW
        rw [v1, v2] at FW
        rw [v1] at c4
        rw [v2] at c5
        clear HO HT v1 v2 S1
        go_wp2_with fail
        refine FW.out.mono ?_
        rintro e w1 ⟨rfl, b1⟩
        have B1 := Lib.hid (BL.out.trans (b1.mono BL.out.size))
        have B2 := Lib.hid (BW.out.trans (Below.mono B1.out BW.out.size))
        clear b1 FW c0 c1' c2 c3 c4 c5 k0 BL BL2
        cases hf : fewO x.c
        · have RF : Hid (R = false) := Lib.hid (by rw [SD.out, hf]; rfl)
          clear SD
          go_wp2_with fail
          go_ret
          exact ⟨by rw [RF.out]; rfl, B2.out⟩
        · have S2 : Hid (R = (cts (l.drop (k + 1))).all fewO) := Lib.hid (by rw [SD.out, hf]; rfl)
          clear SD
          go_wp2_with fail
          exact ⟨⟨k + 1, by omega, by go_num, S2, B1⟩, by simp [intOf]; omega⟩
      · have d1 : ¬ (k : Int) < (n : Int) := by omega
        have RT : Hid (R = true) := Lib.hid (by rw [S1.out, List.drop_eq_nil_of_le (by rw [← HN.out]; omega)]; rfl)
        clear S1
        go_wp2_with fail
        go_ret
        exact ⟨by rw [RT.out]; rfl, BL2.out⟩
  · have e1 : decide ((n : Int) ≤ 30) = false := by simp; omega
    have e2 : decide (n ≤ 30) = false := by simp; omega
    have e3 : (0 : Int) < (n : Int) := by omega
    have RF : Hid (R = false) := Lib.hid (by rw [HR.out, decide_eq_false c1]; rfl)
    clear HR c1
    go_wp2_with fail
    go_loopw [5] (fun s5 wr => s5 = .int .i64 0 ∧ wr = W) (fun i _ => 0)
    case atStart => exact ⟨rfl, rfl⟩
    case round =>
      obtain ⟨rfl, rfl⟩ := hrel
      go_wp2_with fail
      go_ret
      exact ⟨by rw [RF.out]; rfl, BW.out⟩
/-- a map as an argument brings it -/
def allFew (ms : List MV) : Bool := ms.all fun m => fewM (cts m.l)
set_option maxHeartbeats 2000000 in
set_option maxRecDepth 100000 in
theorem few_any (A : Option Addr) (n c : Nat) (ms : List MV) (w : World) (hn : n = ms.length) (hl : n ≤ 100) (h : Rd w A (mvC ms)) (hm : ∀ m ∈ ms, Mw w m.A m.l ∧ m.l.length ≤ 9223372036854775807) :
    Calls Tryz.prog 11 #[.slice A n c] w fun e w' => e = .returned (.bool (allFew ms)) ∧ Below w.heap.size w w' := by
  have H := Lib.hid h
  have HM := Lib.hid hm
  have HN := Lib.hid hn
  clear h hn hm
  obtain ⟨R, hR⟩ : ∃ R, allFew ms = R := ⟨_, rfl⟩
  have HR : Hid (R = allFew (ms.drop 0)) := Lib.hid hR.symm
  rw [hR]
  clear hR
  go_enter Tryz.func11, Tryz.ntmps11
  go_wp2_with fail
  go_loopw [3] (fun s3 wr => ∃ k : Nat, k ≤ n ∧ s3 = .int .i64 (k : Int) ∧ Hid (R = allFew (ms.drop k)) ∧ Hid (Below w.heap.size w wr)) (fun i _ => n - (intOf i).toNat)
  case atStart => exact ⟨0, Nat.zero_le _, rfl, HR, Lib.hid (Below.refl _ _)⟩
  case round =>
    clear HR
    obtain ⟨k, hkn, rfl, HR, BL⟩ := hrel
    by_cases hlt : k < n
    · have hkl : k < ms.length := by rw [← HN.out]; exact hlt
      have d1 : (k : Int) < (n : Int) := by omega
      have d2 : (0 : Int) ≤ (k : Int) := by omega
      obtain ⟨b, off, rfl, hbz, c0⟩ := (H.out.below BL.out).map_at (f := fun m : MV => Value.slice m.A m.l.length m.c) hkl
      have HK := HM.out _ (List.getElem_mem hkl)
      have WC := Lib.hid (fewm_any ms[k].A ms[k].l.length ms[k].c ms[k].l wr rfl HK.2 (HK.1.below BL.out))
      have RK : Hid (R = (fewM (cts ms[k].l) && allFew (ms.drop (k + 1)))) := Lib.hid (by rw [HR.out, List.drop_eq_getElem_cons hkl]; rfl)
      clear HR HK
      generalize ms[k] = m at *
      go_wp2_with fail
      refine WC.out.mono ?_
      rintro e w1 ⟨rfl, b1⟩
      have B1 := Lib.hid (BL.out.trans (b1.mono BL.out.size))
      clear b1 WC BL
      cases hv : fewM (cts m.l)
      · have RF : Hid (R = false) := Lib.hid (by rw [RK.out, hv]; rfl)
        clear RK
        go_wp2_with fail
        go_ret
        exact ⟨by rw [RF.out]; rfl, B1.out⟩
      · have R2 : Hid (R = allFew (ms.drop (k + 1))) := Lib.hid (by rw [RK.out, hv]; rfl)
        clear RK
        go_wp2_with fail
        exact ⟨⟨k + 1, by omega, by go_num, R2, B1⟩, by simp [intOf]; omega⟩
    · have d1 : ¬ (k : Int) < (n : Int) := by omega
      have RT : Hid (R = true) := Lib.hid (by rw [HR.out, List.drop_eq_nil_of_le (by rw [← HN.out]; omega)]; rfl)
      clear HR
      go_wp2_with fail
      go_ret
      exact ⟨by rw [RT.out]; rfl, BL.out⟩
end Go.Proofs.YtlejeelmlclnkaaGreatDoor
