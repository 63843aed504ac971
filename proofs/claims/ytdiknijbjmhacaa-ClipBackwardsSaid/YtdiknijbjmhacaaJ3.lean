/- WALKS: ClipBackwards. -/
import Derived.Test.YtdiknijbjmhacaaJ1
import Derived.Test.YtdiknijbjmhacaaD5
set_option linter.unusedSimpArgs false
set_option linter.unusedVariables false
namespace Go.Proofs.Ytdiknijbjmhacaa
open Go.RowKit
attribute [local go_sem ↓] Go.wp_at_zero Go.wp_at_succ

theorem back_p (A : Option Addr) (n c : Nat) (l : List Cl.Pt) (w : World) (hn : n = l.length) (hl : l.length ≤ 1000000) (h : Rp w A l) (y : List Cl.Pt) (hy : y = l.reverse) :
    Calls Try.prog 24 #[.slice A n c] w (PtsPost w y) := by
  subst hn hy
  refine (back_any A c l w hl h).mono fun e w' ⟨v, he, ho, hb⟩ => ?_
  obtain ⟨A', c', rfl, h1, h2⟩ := own_form ho
  exact ⟨A', c', he, rp_own ho, ⟨h1, h2⟩, hb⟩
theorem proper_rev (l : List Cl.Pt) (b : Cl.Bx) : Cl.properB l.reverse b = Cl.properB l b := by unfold Cl.properB; rw [List.all_reverse]
theorem clipL_rev (l : List Cl.Pt) (b : Cl.Bx) : clipL l.reverse b = (clipL l b).reverse.map List.reverse := by
  unfold clipL
  rw [proper_rev]
  split
  · exact Cl.lineF_rev l b
  · rfl
theorem wf_rev {l : List Cl.Pt} (h : Wf l) : Wf l.reverse := fun p hp => h p (List.mem_reverse.1 hp)
theorem rev_at {ps : List (List Cl.Pt)} {k : Nat} (hk : k < ps.length) (hj : ps.length - 1 - k < (ps.reverse.map List.reverse).length) : (ps.reverse.map List.reverse)[ps.length - 1 - k] = ps[k].reverse := by
  rw [List.getElem_map, List.getElem_reverse]
  congr 2
  omega

theorem back_long (A : Option Addr) (n c : Nat) (x0 y0 x1 y1 : Int) (w : World) (hn : 200 < n) :
    Calls Try.prog 8 #[.slice A n c, .agg #[.int .i64 x0, .int .i64 y0, .int .i64 x1, .int .i64 y1]] w fun e w' => e = .returned (.bool true) ∧ Below w.heap.size w w' := by
  have BB : Hid (Below w.heap.size w (w.alloc (.cells #[.int .i64 x0, .int .i64 y0, .int .i64 x1, .int .i64 y1] 26))) := Lib.hid ((Below.refl _ _).alloc (Nat.le_refl _) _)
  have hd : decide ((200 : Int) < (n : Int)) = true := by simp; omega
  go_enter Try.func8, Try.ntmps8
  go_wp2_with fail
  refine (head_any _).mono ?_
  rintro e w1 ⟨rfl, hb1⟩
  have B1 := Lib.hid (BB.out.trans (hb1.mono BB.out.size)); clear hb1
  go_wp2
  go_ret
  exact ⟨rfl, B1.out⟩

set_option maxHeartbeats 8000000 in
theorem back_short (A : Option Addr) (n c : Nat) (l : List Cl.Pt) (x0 y0 x1 y1 : Int) (w : World) (hn : n = l.length) (hl : n ≤ 200) (h : Rp w A l) (hw : Wf l) (hb : Wf [(x0, y0), (x1, y1)]) :
    Calls Try.prog 8 #[.slice A n c, .agg #[.int .i64 x0, .int .i64 y0, .int .i64 x1, .int .i64 y1]] w fun e w' => e = .returned (.bool true) ∧ Below w.heap.size w w' := by
  have BB : Hid (Below w.heap.size w (w.alloc (.cells #[.int .i64 x0, .int .i64 y0, .int .i64 x1, .int .i64 y1] 26))) := Lib.hid ((Below.refl _ _).alloc (Nat.le_refl _) _)
  have BX : Hid (BoxAt (w.alloc (.cells #[.int .i64 x0, .int .i64 y0, .int .i64 x1, .int .i64 y1] 26)) w.heap.size ⟨x0, y0, x1, y1⟩) := Lib.hid (heap_alloc_new w _)
  have hd : decide ((200 : Int) < (n : Int)) = false := by simp; omega
  obtain ⟨rl, hrl⟩ : ∃ r, r = l.reverse := ⟨_, rfl⟩
  have hrn : rl.length = n := by rw [hrl, hn, List.length_reverse]
  have LIN : Hid (∀ u, Rp u A l → Calls Try.prog 12 #[.slice A n c, .agg #[.int .i64 x0, .int .i64 y0, .int .i64 x1, .int .i64 y1]] u (PzPost u (clipL l ⟨x0, y0, x1, y1⟩))) := Lib.hid (fun u hu => line_p A n c l x0 y0 x1 y1 u _ hn (by omega) hu hw hb rfl)
  have BCK : Hid (∀ u, Rp u A l → Calls Try.prog 24 #[.slice A n c] u (PtsPost u rl)) := Lib.hid (fun u hu => back_p A n c l u hn (by omega) hu rl hrl)
  have LIR : Hid (∀ Ai ci u, Rp u Ai rl → Calls Try.prog 12 #[.slice Ai rl.length ci, .agg #[.int .i64 x0, .int .i64 y0, .int .i64 x1, .int .i64 y1]] u (PzPost u ((clipL l ⟨x0, y0, x1, y1⟩).reverse.map List.reverse))) := Lib.hid (fun Ai ci u hu => line_p Ai _ ci rl x0 y0 x1 y1 u _ rfl (by omega) hu (by rw [hrl]; exact wf_rev hw) hb (by rw [hrl]; exact clipL_rev l _))
  have CL : (clipL l ⟨x0, y0, x1, y1⟩).length ≤ 200 := by have := (clipL_len l ⟨x0, y0, x1, y1⟩).2; omega
  have CX : Hid (∀ x ∈ clipL l ⟨x0, y0, x1, y1⟩, x.length ≤ 400) := Lib.hid (fun x hx => by have := (clipL_len l ⟨x0, y0, x1, y1⟩).1 x hx; omega)
  have HRN := Lib.hid hrn
  generalize clipL l ⟨x0, y0, x1, y1⟩ = ps at *
  have H := Lib.hid h
  have QL : Hid ((ps.reverse.map List.reverse).length = ps.length) := Lib.hid (by simp)
  have QA : Hid (∀ k (hk : k < ps.length) (hj : ps.length - 1 - k < (ps.reverse.map List.reverse).length), (ps.reverse.map List.reverse)[ps.length - 1 - k] = ps[k].reverse) := Lib.hid (fun k hk hj => rev_at hk hj)
  generalize ps.reverse.map List.reverse = qs at *
  clear h hw hb hn hrl hrn
  go_enter Try.func8, Try.ntmps8
  go_wp2_with fail
  refine (head_any _).mono ?_
  rintro e w1 ⟨rfl, hb1⟩
  have B1 := Lib.hid (BB.out.trans (hb1.mono BB.out.size)); have X1 := Lib.hid (BX.out.below hb1 BX.out.lt); clear hb1 BB BX
  obtain ⟨q0, q1, q2, q3⟩ := X1.out.c
  simp only at q0 q1 q2 q3
  go_wp2_with fail
  refine (LIN.out _ (H.out.below B1.out)).mono ?_
  rintro e w2 ⟨A2, c2, rfl, pz2, hc2, hb2⟩
  have B2 := Lib.hid (B1.out.trans (hb2.mono B1.out.size)); have X2 := Lib.hid (X1.out.below hb2 X1.out.lt); clear hb2 B1 X1 LIN q0 q1 q2 q3
  have PZ := Lib.hid pz2; clear pz2
  have hl2 : ps.length ≤ c2 := hc2.1
  clear hc2
  obtain ⟨q0, q1, q2, q3⟩ := X2.out.c
  simp only at q0 q1 q2 q3
  have Q0 : ∀ w', OldOf w2.drew w' → w'.cell? ⟨w.heap.size, 0, none⟩ = some (.int .i64 x0) := fun w' h => h.c (by exact q0)
  have Q1 : ∀ w', OldOf w2.drew w' → w'.cell? ⟨w.heap.size, 1, none⟩ = some (.int .i64 y0) := fun w' h => h.c (by exact q1)
  have Q2 : ∀ w', OldOf w2.drew w' → w'.cell? ⟨w.heap.size, 2, none⟩ = some (.int .i64 x1) := fun w' h => h.c (by exact q2)
  have Q3 : ∀ w', OldOf w2.drew w' → w'.cell? ⟨w.heap.size, 3, none⟩ = some (.int .i64 y1) := fun w' h => h.c (by exact q3)
  have o0 : OldOf w2.drew w2.drew := OldOf.refl _
  clear q0 q1 q2 q3
  go_wp2_with fail
  go_region_held3 (fun w' => OldOf w2.drew w') (first | assumption | exact o2) ((first | ((with_reducible refine (BCK.out _ (rp_drew (H.out.below B2.out))).mono ?_); rintro e w3 ⟨A3, c3, rfl, rp3, hc3, hb3⟩; have o2 := OldOf.below (by assumption) hb3) | ((with_reducible refine (LIR.out _ _ _ rp3).mono ?_); rintro e w4 ⟨A4, c4, rfl, pz4, hc4, hb4⟩; have o2 := OldOf.below o2 hb4)))
  have QZ := Lib.hid pz4
  have B4 : Hid (Below w2.heap.size w2 w4) := Lib.hid o2.undrew
  have hl4 : qs.length ≤ c4 := hc4.1
  have hql : (((qs.length : Nat) : Int) != ((ps.length : Nat) : Int)) = false := by rw [QL.out]; simp
  clear Q0 Q1 Q2 Q3 o0 o2 pz4 hc4 hb4 rp3 hc3 hb3
  obtain ⟨m, hm⟩ : ∃ m, m = qs.length := ⟨_, rfl⟩
  rw [← hm] at hql hl4 ⊢
  have hmp : m = ps.length := by rw [hm, QL.out]
  have HM := Lib.hid hm; have HMP := Lib.hid hmp
  have hm200 : m ≤ 200 := by omega
  clear hm hmp
  go_wp2_with fail
  go_loopw [8] (fun i wr => ∃ k : Nat, k ≤ ps.length ∧ i = .int .i64 k ∧ Hid (Below w4.heap.size w4 wr)) (fun i _ => ps.length - (intOf i).toNat)
  case atStart => exact ⟨0, Nat.zero_le _, rfl, Below.refl _ _⟩
  case round =>
    obtain ⟨k, hk, rfl, hbel⟩ := hrel
    by_cases hlt : k < ps.length
    · have B24 : Hid (Below w2.heap.size w2 wr) := Lib.hid (B4.out.trans (hbel.out.mono B4.out.size))
      obtain ⟨j, hj⟩ : ∃ j, j = ps.length - 1 - k := ⟨_, rfl⟩
      have hjq : j < qs.length := by have := QL.out; omega
      obtain ⟨b, off, Ai, ci, rfl, hb, hc, hr, -, -⟩ := (PZ.out.below B24.out).at_ hlt
      obtain ⟨b2, off2, Bi, di, rfl, hb2, hd2, hr2, -, -⟩ := (QZ.out.below hbel.out).at_ hjq
      have hxl : ps[k].length ≤ 400 := CX.out _ (List.getElem_mem hlt)
      have hyq : qs[j] = ps[k].reverse := by subst hj; exact QA.out k hlt (by have := QL.out; omega)
      obtain ⟨y, hy⟩ : ∃ y, y = ps[k].reverse := ⟨_, rfl⟩
      rw [hyq, ← hy] at hd2 hr2
      have hyl : y.length ≤ 400 := by rw [hy, List.length_reverse]; exact hxl
      have BK : Hid (∀ u, Rp u Ai ps[k] → Calls Try.prog 24 #[.slice Ai ps[k].length ci] u (PtsPost u y)) := Lib.hid (fun u hu => back_p Ai _ ci ps[k] u rfl (by omega) hu y hy)
      have HR := Lib.hid hr; have HR2 := Lib.hid hr2
      have SM : Hid (∀ A c u, Rp u A y → Rp u Bi y → Calls Try.prog 14 #[.slice A y.length c, .slice Bi y.length di] u fun e w' => e = .returned (.bool true) ∧ Below u.heap.size u w') := Lib.hid (fun A c u h1 h2 => same_q A Bi _ c di y u rfl (by omega) h1 h2)
      have hjm : (j : Int) = (m : Int) - 1 - (k : Int) := by have := HMP.out; omega
      have HJ := Lib.hid hjm
      clear hr hr2 hy hyq hj
      generalize ps[k] = x at *
      have i1 : IntKind.i64.wrap ((m : Int) - 1) = (m : Int) - 1 := IntWalk.i64_in _ (by omega)
      have i2 : (m : Int) - 1 - (k : Int) = (j : Int) := hjm.symm
      have i3 : IntKind.i64.wrap (j : Int) = (j : Int) := IntWalk.i64_in _ (by omega)
      have i4 : j < m := by have := HM.out; omega
      have i5 : (j : Int) < (m : Int) := by omega
      have i6 : (0 : Int) ≤ (j : Int) := by omega
      clear hjm
      have C0 : ∀ w', OldOf wr.drew w' → w'.cell? ⟨b, off + k, none⟩ = some (.slice Ai x.length ci) := fun w' h => h.c (by exact hc)
      have D0 : ∀ w', OldOf wr.drew w' → w'.cell? ⟨b2, off2 + j, none⟩ = some (.slice Bi y.length di) := fun w' h => h.c (by exact hd2)
      have o0 : OldOf wr.drew wr.drew := OldOf.refl _
      clear hc hd2
      go_wp2_with fail
      go_region_held3 (fun w' => OldOf wr.drew w') (first | assumption | exact o2) ((first | ((with_reducible refine (BK.out _ (rp_drew HR.out)).mono ?_); rintro e w5 ⟨A5, c5, rfl, rp5, hc5, hb5⟩; have o2 := OldOf.below (by assumption) hb5) | ((with_reducible refine (SM.out _ _ _ rp5 (rp_below HR2.out o2.undrew)).mono ?_); rintro e w6 ⟨rfl, hb6⟩; have o2 := OldOf.below o2 hb6)))
      have B6 : Hid (Below w4.heap.size w4 w6) := Lib.hid (hbel.out.trans (o2.undrew.mono hbel.out.size))
      clear C0 D0 o0 o2 rp5 hc5 hb5 hb6 i1 i2 i3 i4 i5 i6
      go_wp2_with fail
      exact ⟨⟨k + 1, hlt, by go_num, B6⟩, by simp [intOf]; omega⟩
    · go_wp2_with fail
      go_ret
      exact ⟨rfl, (B2.out.trans (B4.out.mono B2.out.size)).trans (hbel.out.mono (B2.out.trans (B4.out.mono B2.out.size)).size)⟩
theorem walk_ClipBackwards (A : Option Addr) (n c : Nat) (l : List Cl.Pt) (x0 y0 x1 y1 : Int) (w : World) (hn : n = l.length) (_ : n ≤ c) (_ : c ≤ 8796093022208) (h : Rp w A l) (hw : Wf l) (hb : Wf [(x0, y0), (x1, y1)]) :
    Calls Try.prog 8 #[.slice A n c, .agg #[.int .i64 x0, .int .i64 y0, .int .i64 x1, .int .i64 y1]] w fun e w' => e = .returned (.bool true) ∧ Below w.heap.size w w' := by
  by_cases hl : n ≤ 200
  · exact back_short A n c l x0 y0 x1 y1 w hn hl h hw hb
  · exact back_long A n c x0 y0 x1 y1 w (by omega)
end Go.Proofs.Ytdiknijbjmhacaa
