/- WALKS: the reference's limits by a coordinate that changes. -/
import Derived.Test.YtdiknijbjmhacaaL2
import Derived.Deep.DeepCutAuto
set_option linter.unusedSimpArgs false
set_option linter.unusedVariables false
namespace Go.Proofs.Ytdiknijbjmhacaa
open Go.RowKit
attribute [local go_sem ↓] Go.wp_at_zero Go.wp_at_succ

theorem Bb.made (w : World) (ln ld hn hd fn fd tn td : Int) : Bb ((((((w.alloc (.cells #[.int .i64 ln, .int .i64 ld] 53)).alloc (.cells #[.int .i64 hn, .int .i64 hd] 53)).alloc (.cells #[.int .i64 0, .int .i64 0] 53)).alloc (.cells #[.int .i64 0, .int .i64 0] 53)).alloc (.cells #[.int .i64 fn, .int .i64 fd] 53)).alloc (.cells #[.int .i64 tn, .int .i64 td] 53)) w.heap.size ⟨ln, ld⟩ ⟨hn, hd⟩ ⟨fn, fd⟩ ⟨tn, td⟩ := by
  constructor <;> (repeat (first | ((with_reducible refine alloc_new' _ _ _ ?_); (simp; done)) | ((with_reducible refine (alloc_old _ _ ?_).trans ?_); (focus (simp; try omega)))))
theorem below6 (w : World) (ln ld hn hd fn fd tn td : Int) : Below w.heap.size w ((((((w.alloc (.cells #[.int .i64 ln, .int .i64 ld] 53)).alloc (.cells #[.int .i64 hn, .int .i64 hd] 53)).alloc (.cells #[.int .i64 0, .int .i64 0] 53)).alloc (.cells #[.int .i64 0, .int .i64 0] 53)).alloc (.cells #[.int .i64 fn, .int .i64 fd] 53)).alloc (.cells #[.int .i64 tn, .int .i64 td] 53)) := (((((((Below.refl _ _).alloc (Nat.le_refl _) _).alloc (by simp) _).alloc (by simp; omega) _).alloc (by simp; omega) _).alloc (by simp; omega) _).alloc (by simp; omega) _)

set_option maxHeartbeats 8000000 in
theorem rbound_nz (f d lo hi : Int) (s : Cl.St) (w : World) (hd0 : d ≠ 0) (hs : Cl.SmS s)
    (hf : -2097152 ≤ f ∧ f ≤ 2097152) (hl : -2097152 ≤ lo ∧ lo ≤ 2097152) (hh : -2097152 ≤ hi ∧ hi ≤ 2097152) (hd : -4194304 ≤ d ∧ d ≤ 4194304) :
    Calls Try.prog 42 #[.int .i64 f, .int .i64 d, .int .i64 lo, .int .i64 hi, .agg #[.int .i64 s.low.n, .int .i64 s.low.d], .agg #[.int .i64 s.high.n, .int .i64 s.high.d]] w
      fun e w' => e = .returned (.tuple #[.agg #[.int .i64 (Cl.bnd f d lo hi s).low.n, .int .i64 (Cl.bnd f d lo hi s).low.d], .agg #[.int .i64 (Cl.bnd f d lo hi s).high.n, .int .i64 (Cl.bnd f d lo hi s).high.d], .bool (Cl.rok f d lo hi (Cl.bnd f d lo hi s))]) ∧ Below w.heap.size w w' := by
  have hq : (d == 0) = false := by simpa using hd0
  have SMB := Lib.hid (Cl.bnd_sm hs hf hl hh hd)
  have HOK : Hid (Cl.rok f d lo hi (Cl.bnd f d lo hi s) = !Cl.rless (Cl.bnd f d lo hi s).high (Cl.bnd f d lo hi s).low) := Lib.hid (by unfold Cl.rok; rw [if_neg hd0])
  have HLO : Hid ((Cl.bnd f d lo hi s).low = if Cl.rless s.low (Cl.loR f d lo hi) then Cl.loR f d lo hi else s.low) := Lib.hid (by unfold Cl.bnd; rw [if_neg hd0])
  have HHI : Hid ((Cl.bnd f d lo hi s).high = if Cl.rless (Cl.hiR f d lo hi) s.high then Cl.hiR f d lo hi else s.high) := Lib.hid (by unfold Cl.bnd; rw [if_neg hd0])
  obtain ⟨sm1, sm2⟩ := Cl.loR_sm hf hl hh hd hd0
  have SM1 := Lib.hid sm1; have SM2 := Lib.hid sm2; have SMS := Lib.hid hs; clear sm1 sm2 hs hd0
  obtain ⟨hf1, hf2⟩ := hf; obtain ⟨hl1, hl2⟩ := hl; obtain ⟨hh1, hh2⟩ := hh; obtain ⟨hd1, hd2⟩ := hd
  rw [HOK.out]; clear HOK
  have EN : Hid (d < 0 → Cl.loR f d lo hi = ⟨f - hi, -d⟩ ∧ Cl.hiR f d lo hi = ⟨f - lo, -d⟩) := Lib.hid (fun h => ⟨if_pos h, if_pos h⟩)
  have EP : Hid (¬ d < 0 → Cl.loR f d lo hi = ⟨lo - f, d⟩ ∧ Cl.hiR f d lo hi = ⟨hi - f, d⟩) := Lib.hid (fun h => ⟨if_neg h, if_neg h⟩)
  generalize Cl.loR f d lo hi = fr at *
  generalize Cl.hiR f d lo hi = tr at *
  generalize Cl.bnd f d lo hi s = t at *
  obtain ⟨⟨ln, ld⟩, ⟨hn, hd⟩, sok⟩ := s
  obtain ⟨⟨tln, tld⟩, ⟨thn, thd⟩, tok⟩ := t
  obtain ⟨frn, frd⟩ := fr
  obtain ⟨trn, trd⟩ := tr
  simp only at SMB HLO HHI SMS ⊢
  obtain ⟨W6, hW⟩ : ∃ W6, W6 = ((((((w.alloc (.cells #[.int .i64 ln, .int .i64 ld] 53)).alloc (.cells #[.int .i64 hn, .int .i64 hd] 53)).alloc (.cells #[.int .i64 0, .int .i64 0] 53)).alloc (.cells #[.int .i64 0, .int .i64 0] 53)).alloc (.cells #[.int .i64 (lo - f), .int .i64 d] 53)).alloc (.cells #[.int .i64 (hi - f), .int .i64 d] 53)) := ⟨_, rfl⟩
  have X := Bb.made w ln ld hn hd (lo - f) d (hi - f) d
  have BB := below6 w ln ld hn hd (lo - f) d (hi - f) d
  rw [← hW] at X BB
  have HB := Lib.hid BB; clear BB
  obtain ⟨g, hg⟩ : ∃ g, w.heap.size = g := ⟨_, rfl⟩
  rw [hg] at X
  have HX := Lib.hid X; clear X
  go_enter Try.func42, Try.ntmps42
  go_upto_if 40 with fail
  rw [← hW]
  clear hW
  go_cut [14] (fun s14 wx => s14 = .bool false ∧ Hid (Bb wx g ⟨ln, ld⟩ ⟨hn, hd⟩ ⟨frn, frd⟩ ⟨trn, trd⟩) ∧ Hid (Below w.heap.size w wx))
  case first =>
    obtain ⟨f0, f1, f2, f3⟩ := HX.out.cf
    obtain ⟨t0, t1, t2, t3⟩ := HX.out.ct
    simp only at f0 f1 t0 t1
    by_cases hsg : d < 0
    · obtain ⟨e1, e2⟩ := EN.out hsg
      cases e1; cases e2
      go_wp2_with fail
      go_meet
      exact ⟨rfl, Lib.hid ((HX.out.set_f ⟨f - hi, -d⟩).set_t ⟨f - lo, -d⟩), Lib.hid ((((HB.out.setCell (by simp; omega) _).setCell (by simp; omega) _).setCell (by simp; omega) _).setCell (by simp; omega) _)⟩
    · obtain ⟨e1, e2⟩ := EP.out hsg
      cases e1; cases e2
      go_wp2_with fail
      go_meet
      exact ⟨rfl, HX, HB⟩
  case rest =>
    obtain ⟨rfl, hx, hb⟩ := hcut
    obtain ⟨W7, hW⟩ : ∃ W, W = wc := ⟨_, rfl⟩; rw [← hW] at hx hb ⊢; clear hW wc HX HB EN EP W6
    obtain ⟨l0, l1, l2, l3⟩ := hx.out.cl
    obtain ⟨f0, f1, f2, f3⟩ := hx.out.cf
    simp only at l0 l1 f0 f1
    generalize hr1 : Cl.rless ⟨ln, ld⟩ ⟨frn, frd⟩ = r1 at *
    have LS := Lib.hid (fun u => rless_b ⟨ln, ld⟩ ⟨frn, frd⟩ r1 u SMS.out.low SM1.out hr1)
    clear hr1
    go_wp2_with fail
    refine (LS.out _).mono ?_
    rintro e w8 ⟨rfl, hb8⟩
    have X8 := Lib.hid (hx.out.below hb8); have B8 := Lib.hid (hb.out.trans (hb8.mono hb.out.size)); clear hb8 hx hb LS l0 l1 l2 l3 f0 f1 f2 f3 W7
    go_upto_if 55 with fail
    go_cut [14] (fun s14 wx => s14 = .bool false ∧ Hid (Bb wx g ⟨tln, tld⟩ ⟨hn, hd⟩ ⟨frn, frd⟩ ⟨trn, trd⟩) ∧ Hid (Below w.heap.size w wx))
    case first =>
      rcases r1 with _ | _
      · obtain ⟨rfl, rfl⟩ : tln = ln ∧ tld = ld := by simpa using HLO.out
        go_wp2_with fail
        go_meet
        exact ⟨rfl, X8, B8⟩
      · obtain ⟨rfl, rfl⟩ : tln = frn ∧ tld = frd := by simpa using HLO.out
        obtain ⟨l0, l1, l2, l3⟩ := X8.out.cl
        obtain ⟨f0, f1, f2, f3⟩ := X8.out.cf
        simp only at l0 l1 f0 f1
        go_wp2_with fail
        go_meet
        exact ⟨rfl, Lib.hid (X8.out.set_l ⟨tln, tld⟩), Lib.hid ((B8.out.setCell (by simp; omega) _).setCell (by simp; omega) _)⟩
    case rest =>
      obtain ⟨rfl, hx, hb⟩ := hcut
      obtain ⟨W9, hW⟩ : ∃ W, W = wc := ⟨_, rfl⟩; rw [← hW] at hx hb ⊢; clear hW wc X8 B8 HLO SM1
      obtain ⟨h0, h1, h2, h3⟩ := hx.out.ch
      obtain ⟨t0, t1, t2, t3⟩ := hx.out.ct
      simp only at h0 h1 t0 t1
      generalize hr2 : Cl.rless ⟨trn, trd⟩ ⟨hn, hd⟩ = r2 at *
      have LS := Lib.hid (fun u => rless_b ⟨trn, trd⟩ ⟨hn, hd⟩ r2 u SM2.out SMS.out.high hr2)
      clear hr2
      go_wp2_with fail
      refine (LS.out _).mono ?_
      rintro e w10 ⟨rfl, hb10⟩
      have X10 := Lib.hid (hx.out.below hb10); have B10 := Lib.hid (hb.out.trans (hb10.mono hb.out.size)); clear hb10 hx hb LS h0 h1 h2 h3 t0 t1 t2 t3 W9
      go_upto_if 59 with fail
      go_cut [14] (fun s14 wx => s14 = .bool false ∧ Hid (Bb wx g ⟨tln, tld⟩ ⟨thn, thd⟩ ⟨frn, frd⟩ ⟨trn, trd⟩) ∧ Hid (Below w.heap.size w wx))
      case first =>
        rcases r2 with _ | _
        · obtain ⟨rfl, rfl⟩ : thn = hn ∧ thd = hd := by simpa using HHI.out
          go_wp2_with fail
          go_meet
          exact ⟨rfl, X10, B10⟩
        · obtain ⟨rfl, rfl⟩ : thn = trn ∧ thd = trd := by simpa using HHI.out
          obtain ⟨h0, h1, h2, h3⟩ := X10.out.ch
          obtain ⟨t0, t1, t2, t3⟩ := X10.out.ct
          simp only at h0 h1 t0 t1
          go_wp2_with fail
          go_meet
          exact ⟨rfl, Lib.hid (X10.out.set_h ⟨thn, thd⟩), Lib.hid ((B10.out.setCell (by simp; omega) _).setCell (by simp; omega) _)⟩
      case rest =>
        obtain ⟨rfl, hx, hb⟩ := hcut
        obtain ⟨W7, hW⟩ : ∃ W, W = wc := ⟨_, rfl⟩; rw [← hW] at hx hb ⊢; clear hW wc X10 B10 HHI SM2 SMS w8 w10
        obtain ⟨l0, l1, -, -⟩ := hx.out.cl
        obtain ⟨h0, h1, -, -⟩ := hx.out.ch
        obtain ⟨r0, r1, fr0, fr1⟩ := hx.out.cr
        obtain ⟨s0, s1, fs0, fs1⟩ := hx.out.cs
        simp only at l0 l1 h0 h1
        have hz : g + 1 + 1 + 1 + 1 + 1 < W7.heap.size := lt_of_block hx.out.t
        have hz1 : g + 1 + 1 < W7.heap.size := by omega
        have hz2 : g + 1 + 1 + 1 < W7.heap.size := by omega
        clear hz
        generalize hr3 : Cl.rless ⟨thn, thd⟩ ⟨tln, tld⟩ = r3 at *
        have LS := Lib.hid (fun u => rless_b ⟨thn, thd⟩ ⟨tln, tld⟩ r3 u SMB.out.high SMB.out.low hr3)
        have HR3 := Lib.hid hr3; clear hr3
        have np0 : ¬ (g = g + 1 + 1 ∨ g = g + 1 + 1 + 1) := by omega
        have np1 : ¬ (g + 1 = g + 1 + 1 ∨ g + 1 = g + 1 + 1 + 1) := by omega
        have C0 : ∀ w', But (fun k => k = g + 1 + 1 ∨ k = g + 1 + 1 + 1) W7 w' → w'.cell? ⟨g, 0, none⟩ = some (.int .i64 tln) := fun w' h => h.c np0 (by exact l0)
        have C1 : ∀ w', But (fun k => k = g + 1 + 1 ∨ k = g + 1 + 1 + 1) W7 w' → w'.cell? ⟨g, 1, none⟩ = some (.int .i64 tld) := fun w' h => h.c np0 (by exact l1)
        have C2 : ∀ w', But (fun k => k = g + 1 + 1 ∨ k = g + 1 + 1 + 1) W7 w' → w'.cell? ⟨g + 1, 0, none⟩ = some (.int .i64 thn) := fun w' h => h.c np1 (by exact h0)
        have C3 : ∀ w', But (fun k => k = g + 1 + 1 ∨ k = g + 1 + 1 + 1) W7 w' → w'.cell? ⟨g + 1, 1, none⟩ = some (.int .i64 thd) := fun w' h => h.c np1 (by exact h1)
        have o0 : But (fun k => k = g + 1 + 1 ∨ k = g + 1 + 1 + 1) W7 W7.drew := But.drew (But.refl _ _)
        clear l0 l1 h0 h1 np0 np1
        go_wp2_with fail
        go_region_held3 (fun w' => But (fun k => k = g + 1 + 1 ∨ k = g + 1 + 1 + 1) W7 w') (first | assumption | ((repeat (first | assumption | exact But.refl _ _ | refine But.drew ?_ | ((refine But.set ?_ ?hp _); (case hp => (first | exact .inl rfl | exact .inr rfl))) | ((refine But.trans ?_ (But.of_below (by assumption)))))); done)) (((with_reducible refine (LS.out _).mono ?_); rintro e w2 ⟨rfl, hb2⟩; have o2 := But.trans (by assumption) (But.of_below hb2); have k0 := hb2.cell (p := ⟨g + 1 + 1, 0, none⟩) (by simpa using hz1); have k1 := hb2.cell (p := ⟨g + 1 + 1, 1, none⟩) (by simpa using hz1); have k2 := hb2.cell (p := ⟨g + 1 + 1 + 1, 0, none⟩) (by simpa using hz2); have k3 := hb2.cell (p := ⟨g + 1 + 1 + 1, 1, none⟩) (by simpa using hz2); have k4 := hb2.frozen (p := ⟨g + 1 + 1, 0, none⟩) (by simpa using hz1); have k5 := hb2.frozen (p := ⟨g + 1 + 1, 1, none⟩) (by simpa using hz1); have k6 := hb2.frozen (p := ⟨g + 1 + 1 + 1, 0, none⟩) (by simpa using hz2); have k7 := hb2.frozen (p := ⟨g + 1 + 1 + 1, 1, none⟩) (by simpa using hz2); simp [r0, r1, s0, s1, fr0, fr1, fs0, fs1] at k0 k1 k2 k3 k4 k5 k6 k7))
        all_goals go_wp2_with fail
        all_goals refine bodyPost_ret (v := .tuple #[.agg #[.int .i64 tln, .int .i64 tld], .agg #[.int .i64 thn, .int .i64 thd], .bool (!r3)]) (by simp [results, Try.results42, go_sem, k0, k1, k2, k3]) rfl ⟨by rw [HR3.out], ?_⟩
        all_goals exact hb.out.trans (But.below (X := (fun k => k = g + 1 + 1 ∨ k = g + 1 + 1 + 1)) (B := w.heap.size) (by ((repeat (first | assumption | exact But.refl _ _ | refine But.drew ?_ | ((refine But.set ?_ ?hp _); (case hp => (first | exact .inl rfl | exact .inr rfl))) | ((refine But.trans ?_ (But.of_below (by assumption)))))); done)) hb.out.size (by intro k hk; omega))
/-- both -/
theorem rbound_any (f d lo hi : Int) (s : Cl.St) (w : World) (hs : Cl.SmS s)
    (hf : -2097152 ≤ f ∧ f ≤ 2097152) (hl : -2097152 ≤ lo ∧ lo ≤ 2097152) (hh : -2097152 ≤ hi ∧ hi ≤ 2097152) (hd : -4194304 ≤ d ∧ d ≤ 4194304) :
    Calls Try.prog 42 #[.int .i64 f, .int .i64 d, .int .i64 lo, .int .i64 hi, .agg #[.int .i64 s.low.n, .int .i64 s.low.d], .agg #[.int .i64 s.high.n, .int .i64 s.high.d]] w
      fun e w' => e = .returned (.tuple #[.agg #[.int .i64 (Cl.bnd f d lo hi s).low.n, .int .i64 (Cl.bnd f d lo hi s).low.d], .agg #[.int .i64 (Cl.bnd f d lo hi s).high.n, .int .i64 (Cl.bnd f d lo hi s).high.d], .bool (Cl.rok f d lo hi (Cl.bnd f d lo hi s))]) ∧ Below w.heap.size w w' := by
  by_cases hd0 : d = 0
  · subst hd0
    obtain ⟨e1, e2⟩ := Cl.bnd_zero f lo hi s
    rw [e1, e2]
    unfold Cl.rok
    rw [if_pos rfl]
    exact rbound_zero f lo hi _ _ _ _ w
  · exact rbound_nz f d lo hi s w hd0 hs hf hl hh hd
end Go.Proofs.Ytdiknijbjmhacaa
