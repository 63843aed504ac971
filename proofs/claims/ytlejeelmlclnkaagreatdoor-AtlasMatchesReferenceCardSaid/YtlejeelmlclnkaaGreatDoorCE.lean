/- WALKS: the reference's Same of maps. -/
import Derived.Test.YtlejeelmlclnkaaGreatDoorCD
import Derived.Test.YtlejeelmlclnkaaGreatDoorWD
set_option linter.unusedSimpArgs false
set_option linter.unusedVariables false
namespace Go.Proofs.YtlejeelmlclnkaaGreatDoor
open Go.RowKit

set_option maxHeartbeats 4000000 in
set_option maxRecDepth 100000 in
theorem rsamem_any (A B : Option Addr) (c d : Nat) (l m : List RO) (n1 n2 : Nat) (w : World) (hn1 : n1 = l.length) (hn2 : n2 = m.length) (h : Ms w A l) (h2 : Ms w B m) :
    Calls Tryz.prog 16 #[.agg #[.slice A n1 c], .agg #[.slice B n2 d]] w fun e w' => e = .returned (.bool (At.sameL (cts l) (cts m))) ∧ Below w.heap.size w w' := by
  have hl : n1 ≤ 100000 := by rw [hn1]; exact h.len
  have hm : n2 ≤ 100000 := by rw [hn2]; exact h2.len
  have H := Lib.hid h; clear h
  have H2 := Lib.hid h2; clear h2
  have HN := Lib.hid hn1
  have HM := Lib.hid hn2
  clear hn1 hn2
  obtain ⟨R, hR⟩ : ∃ R, At.sameL (cts l) (cts m) = R := ⟨_, rfl⟩
  have HR := Lib.hid hR
  rw [hR]
  clear hR
  obtain ⟨W, hW⟩ : ∃ W, W = (w.alloc (.cells #[.slice A n1 c] 24)).alloc (.cells #[.slice B n2 d] 24) := ⟨_, rfl⟩
  have HX : W.heap[w.heap.size]? = some (.cells #[.slice A n1 c] 24 (0, 0)) := by rw [hW]; exact (alloc_old _ _ (by simp)).trans (heap_alloc_new w _)
  have HY : W.heap[w.heap.size + 1]? = some (.cells #[.slice B n2 d] 24 (0, 0)) := by rw [hW]; exact alloc_new' _ _ _ (by simp)
  have WZ : W.heap.size = w.heap.size + 2 := by rw [hW]; simp
  have BW : Hid (Below w.heap.size w W) := Lib.hid (by rw [hW]; exact ((Below.refl _ _).alloc (Nat.le_refl _) _).alloc (by simp) _)
  have CF : Hid (∀ u, Below W.heap.size W u → u.cell? ⟨w.heap.size, 0, none⟩ = some (.slice A n1 c) ∧ u.cell? ⟨w.heap.size + 1, 0, none⟩ = some (.slice B n2 d)) := Lib.hid (fun u hu => ⟨cell_of_row u _ 0 _ _ _ ((hu.block w.heap.size (by omega)).trans HX), cell_of_row u _ 0 _ _ _ ((hu.block (w.heap.size + 1) (by omega)).trans HY)⟩)
  obtain ⟨k0, k1⟩ := CF.out W (Below.refl _ _)
  clear HX HY
  by_cases hlen : n1 = n2
  · have hq : ((n1 : Int) != (n2 : Int)) = false := by rw [hlen]; simp
    have HL := Lib.hid hlen
    have HR0 : Hid (R = At.sameL (cts (l.drop 0)) (cts (m.drop 0))) := Lib.hid HR.out.symm
    have B0 : Hid (Below W.heap.size W W) := Lib.hid (Below.refl _ _)
    clear hlen HR
    go_enter Tryz.func16, Tryz.ntmps16
    go_upto_region 1 with fail
    rw [← hW]
    clear hW
    go_wp2_with fail
    go_loopw [5] (fun i wr => ∃ k : Nat, k ≤ n1 ∧ i = .int .i64 (k : Int) ∧ Hid (R = At.sameL (cts (l.drop k)) (cts (m.drop k))) ∧ Hid (Below W.heap.size W wr)) (fun i _ => n1 - (intOf i).toNat)
    case atStart => exact ⟨0, Nat.zero_le _, rfl, HR0, B0⟩
    case round =>
      clear B0 HR0 k0 k1
      obtain ⟨k, hk, rfl, HR, BL⟩ := hrel
      obtain ⟨k0, k1⟩ := CF.out wr BL.out
      have BL2 := Lib.hid (BW.out.trans (Below.mono BL.out BW.out.size))
      by_cases hlt : k < n1
      · have hkl : k < l.length := by rw [← HN.out]; exact hlt
        have hkm : k < m.length := by rw [← HM.out, ← HL.out]; exact hlt
        have d1 : (k : Int) < (n1 : Int) := by omega
        have d3 : (k : Int) < (n2 : Int) := by have := HL.out; omega
        have d2 : (0 : Int) ≤ (k : Int) := by omega
        obtain ⟨b, off, rfl, hb, c0, c1, c2, c3, c4, c5⟩ := ros_at (H.out.rd.below BL2.out) hkl
        obtain ⟨b', off', rfl, hb', c0', c1', c2', c3', c4', c5'⟩ := ros_at (H2.out.rd.below BL2.out) hkm
        have HO := H.out.ob l[k] (List.getElem_mem hkl)
        have HO' := H2.out.ob m[k] (List.getElem_mem hkm)
        have SZ := (H.out.sz l[k] (List.getElem_mem hkl)).1
        have SZ' := (H2.out.sz m[k] (List.getElem_mem hkm)).1
        have HD : Hid (R = (At.sameO l[k].c m[k].c && At.sameL (cts (l.drop (k + 1))) (cts (m.drop (k + 1))))) := Lib.hid (HR.out.trans (by rw [List.drop_eq_getElem_cons hkl, List.drop_eq_getElem_cons hkm]; rfl))
        clear HR
        generalize l[k] = x at *
        generalize m[k] = y at *
        have SM : Hid (∀ u, OldB wr u → Calls Tryz.prog 53 #[roA x, roA y] u fun e w' => e = .returned (.bool (At.sameO x.c y.c)) ∧ Below u.heap.size u w') := Lib.hid (fun u hu => rsame_any x y u (HO.below (BL2.out.trans (Below.mono hu BL2.out.size))) (HO'.below (BL2.out.trans (Below.mono hu BL2.out.size))) SZ SZ')
        obtain ⟨A1, q1, v1, -⟩ := HO.rs
        obtain ⟨A2, q2, v2, -⟩ := HO.ts
        obtain ⟨A3, q3, v3, -⟩ := HO'.rs
        obtain ⟨A4, q4, v4, -⟩ := HO'.ts
        unfold roA at SM
        rw [v1, v2, v3, v4] at SM
        rw [v1] at c4
        rw [v2] at c5
        rw [v3] at c4'
        rw [v4] at c5'
        have K : ∀ {p : Addr} {v : Value}, p.block < wr.heap.size → wr.cell? p = some v → ∀ u, OldB wr u → u.cell? p = some v := fun hp hc u hu => (World.cell?_of_block (w := wr) (hu.block _ hp)).trans hc
        have wz : w.heap.size + 2 ≤ wr.heap.size := by rw [← WZ]; exact BL.out.size
        have K0 := K (p := ⟨w.heap.size, 0, none⟩) (by show w.heap.size < _; omega) k0
        have K1 := K (p := ⟨w.heap.size + 1, 0, none⟩) (by show w.heap.size + 1 < _; omega) k1
        have C0 := K (p := ⟨b, _, none⟩) hb c0
        have C1 := K (p := ⟨b, _, none⟩) hb c1
        have C2 := K (p := ⟨b, _, none⟩) hb c2
        have C3 := K (p := ⟨b, _, none⟩) hb c3
        have C4 := K (p := ⟨b, _, none⟩) hb c4
        have C5 := K (p := ⟨b, _, none⟩) hb c5
        have C0' := K (p := ⟨b', _, none⟩) hb' c0'
        have C1' := K (p := ⟨b', _, none⟩) hb' c1'
        have C2' := K (p := ⟨b', _, none⟩) hb' c2'
        have C3' := K (p := ⟨b', _, none⟩) hb' c3'
        have C4' := K (p := ⟨b', _, none⟩) hb' c4'
        have C5' := K (p := ⟨b', _, none⟩) hb' c5'
        clear HO HO' SZ SZ' v1 v2 v3 v4 K c1 c2 c3 c4 c5 c1' c2' c3' c4' c5' c0 c0'
        go_wp2_with fail
        (refine wp_region_noPanic ?_; refine wp_region_held_drew (S := (OldB wr)) (by kernel_rfl) ?_ (fun hHeld => ?_); exact Below.drew (Below.refl _ _))
        (refine tkW 0 ?_; try simp only [gmS])
        (refine tkW 1 ?_; try simp only [gmS])
        (refine tkW 2 ?_; try simp only [gmS])
        (refine tkW 3 ?_; try simp only [gmS])
        (refine tkW 4 ?_; try simp only [gmS])
        (refine tkW 5 ?_; try simp only [gmS])
        (refine tkW 6 ?_; try simp only [gmS])
        (refine tkW 7 ?_; try simp only [gmS])
        (refine tkW 8 ?_; try simp only [gmS])
        (refine tkW 9 ?_; try simp only [gmS])
        (refine rdW 10 (fun K hK => ?_); go_simp)
        refine (SM.out _ hHeld).mono ?_
        rintro e w1 ⟨rfl, b1⟩
        (refine hK.out _ _ (OldB.then hHeld b1) (fun hHeld2 => ?_); clear hK K hHeld; have hHeld := hHeld2; clear hHeld2; try simp only [gmS])
        (refine tkW 11 ?_; try simp only [gmS])
        have B1 := Lib.hid (BL.out.trans (Below.mono hHeld BL.out.size))
        (refine wpAnyH_done (by kernel_rfl) ?_ _; refine NoPanic.normal ?_)
        have B2 := Lib.hid (BW.out.trans (Below.mono B1.out BW.out.size))
        clear hHeld SM C0 C1 C2 C3 C4 C5 C0' C1' C2' C3' C4' C5' K0 K1
        cases hs : At.sameO x.c y.c
        · have RF : Hid (R = false) := Lib.hid (by rw [HD.out, hs]; rfl)
          clear HD
          go_wp2_with fail
          go_ret
          exact ⟨by rw [RF.out]; rfl, B2.out⟩
        · have R2 : Hid (R = At.sameL (cts (l.drop (k + 1))) (cts (m.drop (k + 1)))) := Lib.hid (by rw [HD.out, hs]; rfl)
          clear HD
          go_wp2_with fail
          exact ⟨⟨k + 1, by omega, by go_num, R2, B1⟩, by simp [intOf]; omega⟩
      · have d1 : ¬ (k : Int) < (n1 : Int) := by omega
        have RT : Hid (R = true) := Lib.hid (by
          rw [HR.out, List.drop_eq_nil_of_le (by rw [← HN.out]; omega), List.drop_eq_nil_of_le (by rw [← HM.out, ← HL.out]; omega)]; rfl)
        clear HR
        go_wp2_with fail
        go_ret
        exact ⟨by rw [RT.out]; rfl, BL2.out⟩
  · have hq : ((n1 : Int) != (n2 : Int)) = true := by simp; omega
    have RF : Hid (R = false) := Lib.hid (by
      rw [← HR.out]
      cases hx : At.sameL (cts l) (cts m)
      · rfl
      · have := congrArg List.length (At.sameL_iff.1 hx)
        rw [cts_len, cts_len] at this
        exact absurd (HN.out.trans (this.trans HM.out.symm)) hlen)
    clear hlen HR
    go_enter Tryz.func16, Tryz.ntmps16
    go_upto_region 1 with fail
    rw [← hW]
    clear hW
    go_wp2_with fail
    go_ret
    exact ⟨by rw [RF.out]; rfl, BW.out⟩
end Go.Proofs.YtlejeelmlclnkaaGreatDoor
