/- WALKS: ClipMatchesReference. -/
import Derived.Test.YtdiknijbjmhacaaM4
import Derived.Test.YtdiknijbjmhacaaM2
import Derived.Test.YtdiknijbjmhacaaJ1
set_option linter.unusedSimpArgs false
set_option linter.unusedVariables false
namespace Go.Proofs.Ytdiknijbjmhacaa
open Go.RowKit
attribute [local go_sem ↓] Go.wp_at_zero Go.wp_at_succ

theorem rline_p (A : Option Addr) (n c : Nat) (l : List Cl.Pt) (x0 y0 x1 y1 : Int) (w : World) (hn : n = l.length) (hl : n ≤ 1000) (h : Rp w A l) :
    Calls Try.prog 13 #[.slice A n c, .agg #[.int .i64 x0, .int .i64 y0, .int .i64 x1, .int .i64 y1]] w (PzPost w (clipL l ⟨x0, y0, x1, y1⟩)) :=
  (rline_any A n c l x0 y0 x1 y1 w hn hl h).mono fun e w' hh => by
    obtain ⟨A', c', h1, h2, h3, h4, h5⟩ := Pz.of_line hh
    exact ⟨A', c', h1, h2, ⟨h3, h4⟩, h5⟩
theorem ref_long (A : Option Addr) (n c : Nat) (x0 y0 x1 y1 : Int) (w : World) (hn : 200 < n) :
    Calls Try.prog 3 #[.slice A n c, .agg #[.int .i64 x0, .int .i64 y0, .int .i64 x1, .int .i64 y1]] w fun e w' => e = .returned (.bool true) ∧ Below w.heap.size w w' := by
  have BB : Hid (Below w.heap.size w (w.alloc (.cells #[.int .i64 x0, .int .i64 y0, .int .i64 x1, .int .i64 y1] 26))) := Lib.hid ((Below.refl _ _).alloc (Nat.le_refl _) _)
  have hd : decide ((200 : Int) < (n : Int)) = true := by simp; omega
  go_enter Try.func3, Try.ntmps3
  go_wp2_with fail
  refine (head_any _).mono ?_
  rintro e w1 ⟨rfl, hb1⟩
  have B1 := Lib.hid (BB.out.trans (hb1.mono BB.out.size)); clear hb1
  go_wp2
  go_ret
  exact ⟨rfl, B1.out⟩
set_option maxRecDepth 10000 in
set_option maxHeartbeats 16000000 in
theorem ref_short (A : Option Addr) (n c : Nat) (l : List Cl.Pt) (x0 y0 x1 y1 : Int) (w : World) (hn : n = l.length) (hl : n ≤ 200) (h : Rp w A l) (hw : Wf l) (hb : Wf [(x0, y0), (x1, y1)]) :
    Calls Try.prog 3 #[.slice A n c, .agg #[.int .i64 x0, .int .i64 y0, .int .i64 x1, .int .i64 y1]] w fun e w' => e = .returned (.bool true) ∧ Below w.heap.size w w' := by
  have BB : Hid (Below w.heap.size w (w.alloc (.cells #[.int .i64 x0, .int .i64 y0, .int .i64 x1, .int .i64 y1] 26))) := Lib.hid ((Below.refl _ _).alloc (Nat.le_refl _) _)
  have BX : Hid (BoxAt (w.alloc (.cells #[.int .i64 x0, .int .i64 y0, .int .i64 x1, .int .i64 y1] 26)) w.heap.size ⟨x0, y0, x1, y1⟩) := Lib.hid (heap_alloc_new w _)
  have hd : decide ((200 : Int) < (n : Int)) = false := by simp; omega
  have LIN : Hid (∀ u, Rp u A l → Calls Try.prog 12 #[.slice A n c, .agg #[.int .i64 x0, .int .i64 y0, .int .i64 x1, .int .i64 y1]] u (PzPost u (clipL l ⟨x0, y0, x1, y1⟩))) := Lib.hid (fun u hu => line_p A n c l x0 y0 x1 y1 u _ hn (by omega) hu hw hb rfl)
  have RIN : Hid (∀ u, Rp u A l → Calls Try.prog 15 #[.slice A n c, .agg #[.int .i64 x0, .int .i64 y0, .int .i64 x1, .int .i64 y1]] u (PtsPost u (clipR l ⟨x0, y0, x1, y1⟩))) := Lib.hid (fun u hu => ring_p A n c l x0 y0 x1 y1 u _ hn (by omega) hu hw hb rfl)
  have LIR : Hid (∀ u, Rp u A l → Calls Try.prog 13 #[.slice A n c, .agg #[.int .i64 x0, .int .i64 y0, .int .i64 x1, .int .i64 y1]] u (PzPost u (clipL l ⟨x0, y0, x1, y1⟩))) := Lib.hid (fun u hu => rline_p A n c l x0 y0 x1 y1 u hn (by omega) hu)
  have RIR : Hid (∀ u, Rp u A l → Calls Try.prog 16 #[.slice A n c, .agg #[.int .i64 x0, .int .i64 y0, .int .i64 x1, .int .i64 y1]] u (PtsPost u (clipR l ⟨x0, y0, x1, y1⟩))) := Lib.hid (fun u hu => rring_any A n c l x0 y0 x1 y1 u hn (by omega) hu)
  have CL : (clipL l ⟨x0, y0, x1, y1⟩).length ≤ 200 := by have := (clipL_len l ⟨x0, y0, x1, y1⟩).2; omega
  have CX : ∀ x ∈ clipL l ⟨x0, y0, x1, y1⟩, x.length ≤ 400 := fun x hx => by have := (clipL_len l ⟨x0, y0, x1, y1⟩).1 x hx; omega
  have CR : (clipR l ⟨x0, y0, x1, y1⟩).length ≤ 3200 := by have := ringLen l ⟨x0, y0, x1, y1⟩; omega
  generalize clipL l ⟨x0, y0, x1, y1⟩ = ps at *
  generalize clipR l ⟨x0, y0, x1, y1⟩ = rr at *
  have PAR := Lib.hid (fun A B c d u (h : Pz u A ps) (h2 : Pz u B ps) => parts_p A B ps.length c d ps u rfl (by omega) (fun x hx => by have := CX x hx; omega) h h2)
  have SAM := Lib.hid (fun A B c d u (h : Rp u A rr) (h2 : Rp u B rr) => same_q A B rr.length c d rr u rfl (by omega) h h2)
  have H := Lib.hid h
  clear h hw hb hn CX
  go_enter Try.func3, Try.ntmps3
  go_wp2_with fail
  refine (head_any _).mono ?_
  rintro e w1 ⟨rfl, hb1⟩
  have B1 := Lib.hid (BB.out.trans (hb1.mono BB.out.size)); have X1 := Lib.hid (BX.out.below hb1 BX.out.lt); clear hb1 BB BX
  obtain ⟨q0, q1, q2, q3⟩ := X1.out.c
  have Q0 : ∀ w', OldOf w1.drew w' → w'.cell? ⟨w.heap.size, 0, none⟩ = some (.int .i64 x0) := fun w' h => h.c (by exact q0)
  have Q1 : ∀ w', OldOf w1.drew w' → w'.cell? ⟨w.heap.size, 1, none⟩ = some (.int .i64 y0) := fun w' h => h.c (by exact q1)
  have Q2 : ∀ w', OldOf w1.drew w' → w'.cell? ⟨w.heap.size, 2, none⟩ = some (.int .i64 x1) := fun w' h => h.c (by exact q2)
  have Q3 : ∀ w', OldOf w1.drew w' → w'.cell? ⟨w.heap.size, 3, none⟩ = some (.int .i64 y1) := fun w' h => h.c (by exact q3)
  have o0 : OldOf w1.drew w1.drew := OldOf.refl _
  have RA : Hid (∀ u, OldOf w1.drew u → Rp u A l) := Lib.hid (fun u hu => rp_below H.out (B1.out.trans (hu.undrew.mono B1.out.size)))
  have LIN1 : Hid (∀ u, OldOf w1.drew u → Calls Try.prog 12 #[.slice A n c, .agg #[.int .i64 x0, .int .i64 y0, .int .i64 x1, .int .i64 y1]] u (PzPost u ps)) := Lib.hid (fun u hu => LIN.out u (RA.out u hu))
  have RIN1 : Hid (∀ u, OldOf w1.drew u → Calls Try.prog 15 #[.slice A n c, .agg #[.int .i64 x0, .int .i64 y0, .int .i64 x1, .int .i64 y1]] u (PtsPost u rr)) := Lib.hid (fun u hu => RIN.out u (RA.out u hu))
  have LIR1 : Hid (∀ u, OldOf w1.drew u → Calls Try.prog 13 #[.slice A n c, .agg #[.int .i64 x0, .int .i64 y0, .int .i64 x1, .int .i64 y1]] u (PzPost u ps)) := Lib.hid (fun u hu => LIR.out u (RA.out u hu))
  have RIR1 : Hid (∀ u, OldOf w1.drew u → Calls Try.prog 16 #[.slice A n c, .agg #[.int .i64 x0, .int .i64 y0, .int .i64 x1, .int .i64 y1]] u (PtsPost u rr)) := Lib.hid (fun u hu => RIR.out u (RA.out u hu))
  clear q0 q1 q2 q3 LIN RIN LIR RIR RA
  go_wp2_with fail
  go_region_held3 (fun w' => OldOf w1.drew w') (first | assumption | exact o2) ((first
    | ((with_reducible refine (LIN1.out _ (by assumption)).mono ?_); rintro e w2 ⟨A2, c2, rfl, pz2, hc2, hb2⟩; have o2 := OldOf.below (by assumption) hb2)
    | ((with_reducible refine (LIR1.out _ (by assumption)).mono ?_); rintro e w3 ⟨A3, c3, rfl, pz3, hc3, hb3⟩; have o2 := OldOf.below (by assumption) hb3)
    | ((with_reducible refine (PAR.out _ _ _ _ _ ?_ ?_).mono ?_); (focus ((repeat (first | assumption | with_reducible refine pz_drew ?_ | with_reducible refine pz_below ?_ (by assumption))); done)); (focus ((repeat (first | assumption | with_reducible refine pz_drew ?_ | with_reducible refine pz_below ?_ (by assumption))); done)); rintro e w4 ⟨rfl, hb4⟩; have o2 := OldOf.below (by assumption) hb4)
    | ((with_reducible refine (RIN1.out _ (by assumption)).mono ?_); rintro e w5 ⟨A5, c5, rfl, rp5, hc5, hb5⟩; have o2 := OldOf.below (by assumption) hb5)
    | ((with_reducible refine (RIR1.out _ (by assumption)).mono ?_); rintro e w6 ⟨A6, c6, rfl, rp6, hc6, hb6⟩; have o2 := OldOf.below (by assumption) hb6)
    | ((with_reducible refine (SAM.out _ _ _ _ _ ?_ ?_).mono ?_); (focus ((repeat (first | assumption | with_reducible refine rp_drew ?_ | with_reducible refine rp_below ?_ (by assumption))); done)); (focus ((repeat (first | assumption | with_reducible refine rp_drew ?_ | with_reducible refine rp_below ?_ (by assumption))); done)); rintro e w7 ⟨rfl, hb7⟩; have o2 := OldOf.below (by assumption) hb7)))
  all_goals (go_wp2_with fail; go_ret; exact ⟨rfl, B1.out.trans (o2.undrew.mono B1.out.size)⟩)
theorem walk_ClipMatchesReference (A : Option Addr) (n c : Nat) (l : List Cl.Pt) (x0 y0 x1 y1 : Int) (w : World) (hn : n = l.length) (_ : n ≤ c) (_ : c ≤ 8796093022208) (h : Rp w A l) (hw : Wf l) (hb : Wf [(x0, y0), (x1, y1)]) :
    Calls Try.prog 3 #[.slice A n c, .agg #[.int .i64 x0, .int .i64 y0, .int .i64 x1, .int .i64 y1]] w fun e w' => e = .returned (.bool true) ∧ Below w.heap.size w w' := by
  by_cases hl : n ≤ 200
  · exact ref_short A n c l x0 y0 x1 y1 w hn hl h hw hb
  · exact ref_long A n c x0 y0 x1 y1 w (by omega)
end Go.Proofs.Ytdiknijbjmhacaa
