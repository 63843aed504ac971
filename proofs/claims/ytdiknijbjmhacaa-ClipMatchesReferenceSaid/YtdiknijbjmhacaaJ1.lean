/- WALKS: ClipAgain. -/
import Derived.Test.YtdiknijbjmhacaaJ0
set_option linter.unusedSimpArgs false
set_option linter.unusedVariables false
namespace Go.Proofs.Ytdiknijbjmhacaa
open Go.RowKit
attribute [local go_sem ↓] Go.wp_at_zero Go.wp_at_succ

theorem same_q (A B : Option Addr) (n c d : Nat) (l : List Cl.Pt) (w : World) (hn : n = l.length) (hl : l.length ≤ 10000) (h : Rp w A l) (h2 : Rp w B l) :
    Calls Try.prog 14 #[.slice A n c, .slice B n d] w fun e w' => e = .returned (.bool true) ∧ Below w.heap.size w w' :=
  (rsame_any A B c d l l n n w hn hn (by omega) (by omega) h h2).mono fun e w' ⟨he, hd⟩ => ⟨by rw [he]; simp [samePts], hd.below _⟩
theorem again_long (A : Option Addr) (n c : Nat) (x0 y0 x1 y1 : Int) (w : World) (hn : 200 < n) :
    Calls Try.prog 6 #[.slice A n c, .agg #[.int .i64 x0, .int .i64 y0, .int .i64 x1, .int .i64 y1]] w fun e w' => e = .returned (.bool true) ∧ Below w.heap.size w w' := by
  have BB : Hid (Below w.heap.size w (w.alloc (.cells #[.int .i64 x0, .int .i64 y0, .int .i64 x1, .int .i64 y1] 26))) := Lib.hid ((Below.refl _ _).alloc (Nat.le_refl _) _)
  have hd : decide ((200 : Int) < (n : Int)) = true := by simp; omega
  go_enter Try.func6, Try.ntmps6
  go_wp2_with fail
  refine (head_any _).mono ?_
  rintro e w1 ⟨rfl, hb1⟩
  have B1 := Lib.hid (BB.out.trans (hb1.mono BB.out.size)); clear hb1
  go_wp2
  go_ret
  exact ⟨rfl, B1.out⟩

set_option maxHeartbeats 8000000 in
theorem again_short (A : Option Addr) (n c : Nat) (l : List Cl.Pt) (x0 y0 x1 y1 : Int) (w : World) (hn : n = l.length) (hl : n ≤ 200) (h : Rp w A l) (hw : Wf l) (hb : Wf [(x0, y0), (x1, y1)]) :
    Calls Try.prog 6 #[.slice A n c, .agg #[.int .i64 x0, .int .i64 y0, .int .i64 x1, .int .i64 y1]] w fun e w' => e = .returned (.bool true) ∧ Below w.heap.size w w' := by
  have BB : Hid (Below w.heap.size w (w.alloc (.cells #[.int .i64 x0, .int .i64 y0, .int .i64 x1, .int .i64 y1] 26))) := Lib.hid ((Below.refl _ _).alloc (Nat.le_refl _) _)
  have BX : Hid (BoxAt (w.alloc (.cells #[.int .i64 x0, .int .i64 y0, .int .i64 x1, .int .i64 y1] 26)) w.heap.size ⟨x0, y0, x1, y1⟩) := Lib.hid (heap_alloc_new w _)
  have hd : decide ((200 : Int) < (n : Int)) = false := by simp; omega
  have LIN : Hid (∀ u, Rp u A l → Calls Try.prog 12 #[.slice A n c, .agg #[.int .i64 x0, .int .i64 y0, .int .i64 x1, .int .i64 y1]] u (PzPost u (clipL l ⟨x0, y0, x1, y1⟩))) := Lib.hid (fun u hu => line_p A n c l x0 y0 x1 y1 u _ hn (by omega) hu hw hb rfl)
  have RIN : Hid (∀ u, Rp u A l → Calls Try.prog 15 #[.slice A n c, .agg #[.int .i64 x0, .int .i64 y0, .int .i64 x1, .int .i64 y1]] u (PtsPost u (clipR l ⟨x0, y0, x1, y1⟩))) := Lib.hid (fun u hu => ring_p A n c l x0 y0 x1 y1 u _ hn (by omega) hu hw hb rfl)
  have LIN2 : Hid (∀ x ∈ clipL l ⟨x0, y0, x1, y1⟩, ∀ Ai ci u, Rp u Ai x → Calls Try.prog 12 #[.slice Ai x.length ci, .agg #[.int .i64 x0, .int .i64 y0, .int .i64 x1, .int .i64 y1]] u (PzPost u [x])) := Lib.hid (fun x hx Ai ci u hu => line_p Ai x.length ci x x0 y0 x1 y1 u _ rfl (by have := (clipL_len l ⟨x0, y0, x1, y1⟩).1 x hx; omega) hu (wf_in (clipL_good hx).2) hb (clipL_again hx))
  have RIN2 : Hid (∀ Ai ci u, Rp u Ai (clipR l ⟨x0, y0, x1, y1⟩) → Calls Try.prog 15 #[.slice Ai (clipR l ⟨x0, y0, x1, y1⟩).length ci, .agg #[.int .i64 x0, .int .i64 y0, .int .i64 x1, .int .i64 y1]] u (PtsPost u (clipR l ⟨x0, y0, x1, y1⟩))) := Lib.hid (fun Ai ci u hu => by
    rcases clipR_good l ⟨x0, y0, x1, y1⟩ with hz | ⟨_, hz⟩
    · exact ring_p Ai _ ci _ x0 y0 x1 y1 u _ rfl (by rw [hz]; simp) hu (by rw [hz]; exact fun p hp => by cases hp) hb (clipR_again l _)
    · exact ring_p Ai _ ci _ x0 y0 x1 y1 u _ rfl (by have := ringLen l ⟨x0, y0, x1, y1⟩; omega) hu (wf_in hz) hb (clipR_again l _))
  have CL : (clipL l ⟨x0, y0, x1, y1⟩).length ≤ 200 := by have := (clipL_len l ⟨x0, y0, x1, y1⟩).2; omega
  have CX : Hid (∀ x ∈ clipL l ⟨x0, y0, x1, y1⟩, x.length ≤ 400) := Lib.hid (fun x hx => by have := (clipL_len l ⟨x0, y0, x1, y1⟩).1 x hx; omega)
  have CR : (clipR l ⟨x0, y0, x1, y1⟩).length ≤ 3200 := by have := ringLen l ⟨x0, y0, x1, y1⟩; omega
  generalize clipL l ⟨x0, y0, x1, y1⟩ = ps at *
  generalize clipR l ⟨x0, y0, x1, y1⟩ = rr at *
  have H := Lib.hid h
  clear h hw hb hn
  go_enter Try.func6, Try.ntmps6
  go_wp2_with fail
  refine (head_any _).mono ?_
  rintro e w1 ⟨rfl, hb1⟩
  have B1 := Lib.hid (BB.out.trans (hb1.mono BB.out.size)); have X1 := Lib.hid (BX.out.below hb1 BX.out.lt); clear hb1 BB BX
  obtain ⟨q0, q1, q2, q3⟩ := X1.out.c
  simp only at q0 q1 q2 q3
  go_wp2_with fail
  refine (LIN.out _ (H.out.below B1.out)).mono ?_
  rintro e w2 ⟨A2, c2, rfl, pz2, hc2, hb2⟩
  have B2 := Lib.hid (B1.out.trans (hb2.mono B1.out.size)); have X2 := Lib.hid (X1.out.below hb2 X1.out.lt); clear hb2 B1 X1 LIN q0 q1 q2 q3
  have PZ := Lib.hid pz2; clear pz2
  have hl2 : ps.length ≤ c2 := hc2.1
  clear hc2
  go_wp2_with fail
  go_loopw [7] (fun i wr => ∃ k : Nat, k ≤ ps.length ∧ i = .int .i64 k ∧ Hid (Below w2.heap.size w2 wr)) (fun i _ => ps.length - (intOf i).toNat)
  case atStart => exact ⟨0, Nat.zero_le _, rfl, Below.refl _ _⟩
  case round =>
    obtain ⟨k, hk, rfl, hbel⟩ := hrel
    obtain ⟨q0, q1, q2, q3⟩ := (X2.out.below hbel.out X2.out.lt).c
    simp only at q0 q1 q2 q3
    by_cases hlt : k < ps.length
    · obtain ⟨b, off, Ai, ci, rfl, hb, hc, hr, -, -⟩ := (PZ.out.below hbel.out).at_ hlt
      have HR := Lib.hid hr; clear hr
      have LI := Lib.hid (LIN2.out _ (List.getElem_mem hlt) Ai ci)
      have hxl : ps[k].length ≤ 400 := CX.out _ (List.getElem_mem hlt)
      generalize ps[k] = x at *
      have C0 : ∀ w', OldOf wr.drew w' → w'.cell? ⟨b, off + k, none⟩ = some (.slice Ai x.length ci) := fun w' h => h.c (by exact hc)
      have Q0 : ∀ w', OldOf wr.drew w' → w'.cell? ⟨w.heap.size, 0, none⟩ = some (.int .i64 x0) := fun w' h => h.c (by exact q0)
      have Q1 : ∀ w', OldOf wr.drew w' → w'.cell? ⟨w.heap.size, 1, none⟩ = some (.int .i64 y0) := fun w' h => h.c (by exact q1)
      have Q2 : ∀ w', OldOf wr.drew w' → w'.cell? ⟨w.heap.size, 2, none⟩ = some (.int .i64 x1) := fun w' h => h.c (by exact q2)
      have Q3 : ∀ w', OldOf wr.drew w' → w'.cell? ⟨w.heap.size, 3, none⟩ = some (.int .i64 y1) := fun w' h => h.c (by exact q3)
      have o0 : OldOf wr.drew wr.drew := OldOf.refl _
      have hc0 := Lib.hid hc
      clear hc q0 q1 q2 q3
      go_wp2_with fail
      go_region_held3 (fun w' => OldOf wr.drew w') (first | assumption | exact o2) (((with_reducible refine (LI.out _ (rp_drew HR.out)).mono ?_); rintro e w3 ⟨A3, c3, rfl, pz3, hc3, hb3⟩; have o2 := OldOf.below (by assumption) hb3))
      obtain ⟨b3, off3, A4, c4, rfl, hb4, hc4, hr4, -, -⟩ := pz3.at_ (k := 0) (by simp)
      simp only [List.getElem_cons_zero, Nat.add_zero] at hc4 hr4
      have hc5 := C0 _ o2
      have hz3 : 1 ≤ c3 := by have := hc3.1; simpa using this
      have SM : Hid (∀ n, Calls Try.prog 14 #[.slice A4 x.length c4, .slice Ai x.length ci] (w3.drewN n) fun e w' => e = .returned (.bool true) ∧ Dr (w3.drewN n) w') := Lib.hid (fun n => by
        have := rsame_any A4 Ai c4 ci x x _ _ (w3.drewN n) rfl rfl (by omega) (by omega) (Rd.drewN hr4 n) (Rd.drewN (rp_below HR.out o2.undrew) n)
        have e : samePts x x = true := by simp [samePts]
        rwa [e] at this)
      have B3 : Hid (Below w2.heap.size w2 w3) := Lib.hid (hbel.out.trans (o2.undrew.mono hbel.out.size))
      clear C0 Q0 Q1 Q2 Q3 o0 o2 pz3 hr4 hb3 hb4
      go_wp2_with fail
      go_quiet ((go_at_call 14; first | exact qd0 (SM.out _) | exact qd1 (SM.out _)))
      go_wp2_with fail
      exact ⟨⟨k + 1, hlt, by go_num, Lib.hid (below_drewN B3.out _)⟩, by simp [intOf]; omega⟩
    · clear LIN2 PZ CX
      go_wp2_with fail
      refine (RIN.out _ (H.out.below (B2.out.trans (hbel.out.mono B2.out.size)))).mono ?_
      rintro e w3 ⟨A3, c3, rfl, rp3, hc3, hb3⟩
      have B3 : Hid (Below w.heap.size w w3) := Lib.hid ((B2.out.trans (hbel.out.mono B2.out.size)).trans (hb3.mono (B2.out.trans (hbel.out.mono B2.out.size)).size))
      have X3 := Lib.hid ((X2.out.below hbel.out X2.out.lt).below hb3 (X2.out.below hbel.out X2.out.lt).lt)
      have RP3 := Lib.hid rp3
      clear q0 q1 q2 q3 rp3 hb3 hc3 RIN
      obtain ⟨q0, q1, q2, q3⟩ := X3.out.c
      simp only at q0 q1 q2 q3
      go_wp2_with fail
      refine (RIN2.out A3 c3 _ RP3.out).mono ?_
      rintro e w4 ⟨A4, c4, rfl, rp4, hc4, hb4⟩
      have B4 := Lib.hid (B3.out.trans (hb4.mono B3.out.size))
      have SM : Hid (Calls Try.prog 14 #[.slice A4 rr.length c4, .slice A3 rr.length c3] w4 fun e w' => e = .returned (.bool true) ∧ Below w4.heap.size w4 w') := Lib.hid (same_q A4 A3 rr.length c4 c3 rr w4 rfl (by omega) rp4 (RP3.out.below hb4))
      clear rp4 hc4 hb4 q0 q1 q2 q3
      go_wp2_with fail
      refine SM.out.mono ?_
      rintro e w5 ⟨rfl, hb5⟩
      have B5 := Lib.hid (B4.out.trans (hb5.mono B4.out.size)); clear hb5
      go_wp2_with fail
      go_ret
      exact ⟨rfl, B5.out⟩
theorem walk_ClipAgain (A : Option Addr) (n c : Nat) (l : List Cl.Pt) (x0 y0 x1 y1 : Int) (w : World) (hn : n = l.length) (_ : n ≤ c) (_ : c ≤ 8796093022208) (h : Rp w A l) (hw : Wf l) (hb : Wf [(x0, y0), (x1, y1)]) :
    Calls Try.prog 6 #[.slice A n c, .agg #[.int .i64 x0, .int .i64 y0, .int .i64 x1, .int .i64 y1]] w fun e w' => e = .returned (.bool true) ∧ Below w.heap.size w w' := by
  by_cases hl : n ≤ 200
  · exact again_short A n c l x0 y0 x1 y1 w hn hl h hw hb
  · exact again_long A n c x0 y0 x1 y1 w (by omega)
end Go.Proofs.Ytdiknijbjmhacaa
