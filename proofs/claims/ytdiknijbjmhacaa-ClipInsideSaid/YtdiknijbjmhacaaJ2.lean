/- WALKS: ClipInside. -/
import Derived.Test.YtdiknijbjmhacaaJ0
import Derived.Test.YtdiknijbjmhacaaG3
set_option linter.unusedSimpArgs false
set_option linter.unusedVariables false
namespace Go.Proofs.Ytdiknijbjmhacaa
open Go.RowKit
attribute [local go_sem ↓] Go.wp_at_zero Go.wp_at_succ

theorem in_long (A : Option Addr) (n c : Nat) (x0 y0 x1 y1 : Int) (w : World) (hn : 200 < n) :
    Calls Try.prog 4 #[.slice A n c, .agg #[.int .i64 x0, .int .i64 y0, .int .i64 x1, .int .i64 y1]] w fun e w' => e = .returned (.bool true) ∧ Below w.heap.size w w' := by
  have BB : Hid (Below w.heap.size w (w.alloc (.cells #[.int .i64 x0, .int .i64 y0, .int .i64 x1, .int .i64 y1] 26))) := Lib.hid ((Below.refl _ _).alloc (Nat.le_refl _) _)
  have hd : decide ((200 : Int) < (n : Int)) = true := by simp; omega
  go_enter Try.func4, Try.ntmps4
  go_wp2_with fail
  refine (head_any _).mono ?_
  rintro e w1 ⟨rfl, hb1⟩
  have B1 := Lib.hid (BB.out.trans (hb1.mono BB.out.size)); clear hb1
  go_wp2
  go_ret
  exact ⟨rfl, B1.out⟩

set_option maxHeartbeats 8000000 in
theorem in_short (A : Option Addr) (n c : Nat) (l : List Cl.Pt) (x0 y0 x1 y1 : Int) (w : World) (hn : n = l.length) (hl : n ≤ 200) (h : Rp w A l) (hw : Wf l) (hb : Wf [(x0, y0), (x1, y1)]) :
    Calls Try.prog 4 #[.slice A n c, .agg #[.int .i64 x0, .int .i64 y0, .int .i64 x1, .int .i64 y1]] w fun e w' => e = .returned (.bool true) ∧ Below w.heap.size w w' := by
  have BB : Hid (Below w.heap.size w (w.alloc (.cells #[.int .i64 x0, .int .i64 y0, .int .i64 x1, .int .i64 y1] 26))) := Lib.hid ((Below.refl _ _).alloc (Nat.le_refl _) _)
  have BX : Hid (BoxAt (w.alloc (.cells #[.int .i64 x0, .int .i64 y0, .int .i64 x1, .int .i64 y1] 26)) w.heap.size ⟨x0, y0, x1, y1⟩) := Lib.hid (heap_alloc_new w _)
  have hd : decide ((200 : Int) < (n : Int)) = false := by simp; omega
  have LIN : Hid (∀ u, Rp u A l → Calls Try.prog 12 #[.slice A n c, .agg #[.int .i64 x0, .int .i64 y0, .int .i64 x1, .int .i64 y1]] u (PzPost u (clipL l ⟨x0, y0, x1, y1⟩))) := Lib.hid (fun u hu => line_p A n c l x0 y0 x1 y1 u _ hn (by omega) hu hw hb rfl)
  have RIN : Hid (∀ u, Rp u A l → Calls Try.prog 15 #[.slice A n c, .agg #[.int .i64 x0, .int .i64 y0, .int .i64 x1, .int .i64 y1]] u (PtsPost u (clipR l ⟨x0, y0, x1, y1⟩))) := Lib.hid (fun u hu => ring_p A n c l x0 y0 x1 y1 u _ hn (by omega) hu hw hb rfl)
  have GD : Hid (∀ x ∈ clipL l ⟨x0, y0, x1, y1⟩, Cl.Good ⟨x0, y0, x1, y1⟩ x) := Lib.hid (fun x hx => (clipL_good hx).1)
  have GR : Hid (clipR l ⟨x0, y0, x1, y1⟩ = [] ∨ Cl.GoodR ⟨x0, y0, x1, y1⟩ (clipR l ⟨x0, y0, x1, y1⟩)) := Lib.hid ((clipR_good l _).imp id And.left)
  have CL : (clipL l ⟨x0, y0, x1, y1⟩).length ≤ 200 := by have := (clipL_len l ⟨x0, y0, x1, y1⟩).2; omega
  have CX : Hid (∀ x ∈ clipL l ⟨x0, y0, x1, y1⟩, x.length ≤ 400) := Lib.hid (fun x hx => by have := (clipL_len l ⟨x0, y0, x1, y1⟩).1 x hx; omega)
  have CR : (clipR l ⟨x0, y0, x1, y1⟩).length ≤ 3200 := by have := ringLen l ⟨x0, y0, x1, y1⟩; omega
  generalize clipL l ⟨x0, y0, x1, y1⟩ = ps at *
  generalize clipR l ⟨x0, y0, x1, y1⟩ = rr at *
  have H := Lib.hid h
  clear h hw hb hn
  go_enter Try.func4, Try.ntmps4
  go_wp2_with fail
  refine (head_any _).mono ?_
  rintro e w1 ⟨rfl, hb1⟩
  have B1 := Lib.hid (BB.out.trans (hb1.mono BB.out.size)); have X1 := Lib.hid (BX.out.below hb1 BX.out.lt); clear hb1 BB BX
  obtain ⟨q0, q1, q2, q3⟩ := X1.out.c
  simp only at q0 q1 q2 q3
  go_wp2_with fail
  refine (LIN.out _ (H.out.below B1.out)).mono ?_
  rintro e w2 ⟨A2, c2, rfl, pz2, hc2, hb2⟩
  have B2 := Lib.hid (B1.out.trans (hb2.mono B1.out.size)); have X2 := Lib.hid (X1.out.below hb2 X1.out.lt); clear hb2 B1 X1 LIN q0 q1 q2 q3
  have PZ := Lib.hid pz2; clear pz2
  have hl2 : ps.length ≤ c2 := hc2.1
  clear hc2
  go_wp2_with fail
  go_loopw [7] (fun i wr => ∃ k : Nat, k ≤ ps.length ∧ i = .int .i64 k ∧ Hid (Below w2.heap.size w2 wr)) (fun i _ => ps.length - (intOf i).toNat)
  case atStart => exact ⟨0, Nat.zero_le _, rfl, Below.refl _ _⟩
  case round =>
    obtain ⟨k, hk, rfl, hbel⟩ := hrel
    obtain ⟨q0, q1, q2, q3⟩ := (X2.out.below hbel.out X2.out.lt).c
    simp only at q0 q1 q2 q3
    by_cases hlt : k < ps.length
    · obtain ⟨b, off, Ai, ci, rfl, hb, hc, hr, -, -⟩ := (PZ.out.below hbel.out).at_ hlt
      have HR := Lib.hid hr; clear hr
      have hxl : ps[k].length ≤ 400 := CX.out _ (List.getElem_mem hlt)
      have hg := GD.out _ (List.getElem_mem hlt)
      have INS : Hid (∀ u, Rp u Ai ps[k] → Calls Try.prog 17 #[.slice Ai ps[k].length ci, .agg #[.int .i64 x0, .int .i64 y0, .int .i64 x1, .int .i64 y1]] u fun e w' => e = .returned (.bool true) ∧ Below u.heap.size u w') := Lib.hid (fun u hu => inside_any Ai _ ci ps[k] x0 y0 x1 y1 u rfl (by omega) hu hg.2.1 hg.2.2)
      have hx2 : 2 ≤ ps[k].length := hg.1
      clear hg
      generalize ps[k] = x at *
      have d1 : decide (x.length < 2) = false := by simp; omega
      have d2 : decide ((x.length : Int) < 2) = false := by simp; omega
      have C0 : ∀ w', OldOf wr.drew w' → w'.cell? ⟨b, off + k, none⟩ = some (.slice Ai x.length ci) := fun w' h => h.c (by exact hc)
      have Q0 : ∀ w', OldOf wr.drew w' → w'.cell? ⟨w.heap.size, 0, none⟩ = some (.int .i64 x0) := fun w' h => h.c (by exact q0)
      have Q1 : ∀ w', OldOf wr.drew w' → w'.cell? ⟨w.heap.size, 1, none⟩ = some (.int .i64 y0) := fun w' h => h.c (by exact q1)
      have Q2 : ∀ w', OldOf wr.drew w' → w'.cell? ⟨w.heap.size, 2, none⟩ = some (.int .i64 x1) := fun w' h => h.c (by exact q2)
      have Q3 : ∀ w', OldOf wr.drew w' → w'.cell? ⟨w.heap.size, 3, none⟩ = some (.int .i64 y1) := fun w' h => h.c (by exact q3)
      have o0 : OldOf wr.drew wr.drew := OldOf.refl _
      clear hc q0 q1 q2 q3
      go_wp2_with fail
      go_region_held3 (fun w' => OldOf wr.drew w') (first | assumption | exact o2) (((with_reducible refine (INS.out _ (rp_drew HR.out)).mono ?_); rintro e w3 ⟨rfl, hb3⟩; have o2 := OldOf.below (by assumption) hb3))
      have B3 : Hid (Below w2.heap.size w2 w3) := Lib.hid (hbel.out.trans (o2.undrew.mono hbel.out.size))
      clear C0 Q0 Q1 Q2 Q3 o0 o2 hb3
      go_wp2_with fail
      exact ⟨⟨k + 1, hlt, by go_num, B3⟩, by simp [intOf]; omega⟩
    · clear PZ CX GD
      go_wp2_with fail
      refine (RIN.out _ (H.out.below (B2.out.trans (hbel.out.mono B2.out.size)))).mono ?_
      rintro e w3 ⟨A3, c3, rfl, rp3, hc3, hb3⟩
      have B3 : Hid (Below w.heap.size w w3) := Lib.hid ((B2.out.trans (hbel.out.mono B2.out.size)).trans (hb3.mono (B2.out.trans (hbel.out.mono B2.out.size)).size))
      have X3 := Lib.hid ((X2.out.below hbel.out X2.out.lt).below hb3 (X2.out.below hbel.out X2.out.lt).lt)
      have RP3 := Lib.hid rp3
      have hcc : rr.length ≤ c3 := hc3.1
      clear q0 q1 q2 q3 rp3 hb3 hc3 RIN
      rcases GR.out with h0 | hg
      · have hz : rr.length = 0 := by rw [h0]; rfl
        have d1 : ((rr.length : Int) == 0) = true := by rw [hz]; rfl
        have d2 : (rr.length == 0) = true := by rw [hz]; rfl
        clear h0 hz
        go_wp2_with fail
        go_ret
        exact ⟨rfl, B3.out⟩
      · have h3 : 3 ≤ rr.length := hg.1
        have d1 : ((rr.length : Int) == 0) = false := by simp; intro e; subst e; simp at h3
        have d2 : (rr.length == 0) = false := by simp; intro e; subst e; simp at h3
        have d3 : decide ((3 : Int) ≤ (rr.length : Int)) = true := by simp; omega
        have d4 : decide (3 ≤ rr.length) = true := by simp; omega
        have INS : Hid (∀ u, Rp u A3 rr → Calls Try.prog 17 #[.slice A3 rr.length c3, .agg #[.int .i64 x0, .int .i64 y0, .int .i64 x1, .int .i64 y1]] u fun e w' => e = .returned (.bool true) ∧ Below u.heap.size u w') := Lib.hid (fun u hu => inside_any A3 _ c3 rr x0 y0 x1 y1 u rfl (by omega) hu hg.2.1 hg.2.2.1)
        have NE : Hid (rr[0] ≠ rr[rr.length - 1]) := Lib.hid (fun e => hg.2.2.2 (by rw [List.head?_eq_getElem?, List.getLast?_eq_getElem?, List.getElem?_eq_getElem (by omega), List.getElem?_eq_getElem (by omega), e]))
        clear hg GR
        obtain ⟨q0, q1, q2, q3⟩ := X3.out.c
        simp only at q0 q1 q2 q3
        obtain ⟨b, off, e3, hb, c0, c1⟩ := RP3.out.at_ (k := 0) (by omega)
        obtain ⟨b', off', e', hb', r0, r1⟩ := RP3.out.at_ (k := rr.length - 1) (by omega)
        subst e3
        cases e'
        rw [Nat.zero_mul, Nat.add_zero] at c0 c1
        obtain ⟨fx, hfx⟩ : ∃ v, v = rr[0].1 := ⟨_, rfl⟩
        obtain ⟨fy, hfy⟩ : ∃ v, v = rr[0].2 := ⟨_, rfl⟩
        obtain ⟨lx, hlx⟩ : ∃ v, v = rr[rr.length - 1].1 := ⟨_, rfl⟩
        obtain ⟨ly, hly⟩ : ∃ v, v = rr[rr.length - 1].2 := ⟨_, rfl⟩
        rw [← hfx] at c0; rw [← hfy] at c1; rw [← hlx] at r0; rw [← hly] at r1
        have DEC : Hid (¬ (fx = lx ∧ fy = ly)) := Lib.hid (by rw [hfx, hfy, hlx, hly]; rintro ⟨e1, e2⟩; exact NE.out (Prod.ext e1 e2))
        clear hfx hfy hlx hly NE
        have i1 : (0 : Int) ≤ (rr.length : Int) - 1 := by omega
        have i2 : ((rr.length : Int) - 1).toNat = rr.length - 1 := by omega
        have i3 : IntKind.i64.wrap ((rr.length : Int) - 1) = (rr.length : Int) - 1 := IntWalk.i64_in _ (by omega)
        have i4 : (rr.length : Int) - 1 < (rr.length : Int) := by omega
        have i5 : 0 < rr.length := by omega
        have i6 : (0 : Int) < (rr.length : Int) := by omega
        have i7 : (1 : Int) ≤ (rr.length : Int) := by omega
        have i8 : 1 ≤ rr.length := by omega
        have C0 : ∀ w', OldOf w3.drew w' → w'.cell? ⟨b, off, none⟩ = some (.int .i64 fx) := fun w' h => h.c (by exact c0)
        have C1 : ∀ w', OldOf w3.drew w' → w'.cell? ⟨b, off + 1, none⟩ = some (.int .i64 fy) := fun w' h => h.c (by exact c1)
        have R0 : ∀ w', OldOf w3.drew w' → w'.cell? ⟨b, off + (rr.length - 1) * 2, none⟩ = some (.int .i64 lx) := fun w' h => h.c (by exact r0)
        have R1 : ∀ w', OldOf w3.drew w' → w'.cell? ⟨b, off + (rr.length - 1) * 2 + 1, none⟩ = some (.int .i64 ly) := fun w' h => h.c (by exact r1)
        have Q0 : ∀ w', OldOf w3.drew w' → w'.cell? ⟨w.heap.size, 0, none⟩ = some (.int .i64 x0) := fun w' h => h.c (by exact q0)
        have Q1 : ∀ w', OldOf w3.drew w' → w'.cell? ⟨w.heap.size, 1, none⟩ = some (.int .i64 y0) := fun w' h => h.c (by exact q1)
        have Q2 : ∀ w', OldOf w3.drew w' → w'.cell? ⟨w.heap.size, 2, none⟩ = some (.int .i64 x1) := fun w' h => h.c (by exact q2)
        have Q3 : ∀ w', OldOf w3.drew w' → w'.cell? ⟨w.heap.size, 3, none⟩ = some (.int .i64 y1) := fun w' h => h.c (by exact q3)
        have o0 : OldOf w3.drew w3.drew := OldOf.refl _
        clear c0 c1 r0 r1 q0 q1 q2 q3
        by_cases ex : fx = lx
        · have e1 : (fx == lx) = true := by simpa using ex
          have e2 : (fy == ly) = false := by simp; exact fun e => DEC.out ⟨ex, e⟩
          clear ex
          go_wp2_with fail
          go_region_held3 (fun w' => OldOf w3.drew w') (first | assumption | exact o2) (((with_reducible refine (INS.out _ (rp_drew RP3.out)).mono ?_); rintro e w4 ⟨rfl, hb4⟩; have o2 := OldOf.below (by assumption) hb4))
          go_wp2_with fail
          go_ret
          exact ⟨rfl, B3.out.trans (o2.undrew.mono B3.out.size)⟩
        · have e1 : (fx == lx) = false := by simpa using ex
          clear ex
          go_wp2_with fail
          go_region_held3 (fun w' => OldOf w3.drew w') (first | assumption | exact o2) (((with_reducible refine (INS.out _ (rp_drew RP3.out)).mono ?_); rintro e w4 ⟨rfl, hb4⟩; have o2 := OldOf.below (by assumption) hb4))
          go_wp2_with fail
          go_ret
          exact ⟨rfl, B3.out.trans (o2.undrew.mono B3.out.size)⟩
theorem walk_ClipInside (A : Option Addr) (n c : Nat) (l : List Cl.Pt) (x0 y0 x1 y1 : Int) (w : World) (hn : n = l.length) (_ : n ≤ c) (_ : c ≤ 8796093022208) (h : Rp w A l) (hw : Wf l) (hb : Wf [(x0, y0), (x1, y1)]) :
    Calls Try.prog 4 #[.slice A n c, .agg #[.int .i64 x0, .int .i64 y0, .int .i64 x1, .int .i64 y1]] w fun e w' => e = .returned (.bool true) ∧ Below w.heap.size w w' := by
  by_cases hl : n ≤ 200
  · exact in_short A n c l x0 y0 x1 y1 w hn hl h hw hb
  · exact in_long A n c x0 y0 x1 y1 w (by omega)
end Go.Proofs.Ytdiknijbjmhacaa
