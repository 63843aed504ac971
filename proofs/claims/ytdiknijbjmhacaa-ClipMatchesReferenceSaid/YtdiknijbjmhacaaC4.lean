/- WALK: clip: the limits by a coordinate that changes. -/
import Derived.Test.YtdiknijbjmhacaaC3
set_option linter.unusedSimpArgs false
set_option linter.unusedVariables false
namespace Go.Proofs.Ytdiknijbjmhacaa
open Go.RowKit

/-- two ratios in blocks of their own -/
structure R2 (w : World) (g1 g2 : Nat) (r s : Cl.Rt) : Prop where
  a : w.heap[g1]? = some (.cells #[.int .i64 r.n, .int .i64 r.d] 60 (0, 0))
  b : w.heap[g2]? = some (.cells #[.int .i64 s.n, .int .i64 s.d] 60 (0, 0))
theorem R2.keep {w w' : World} {g1 g2 : Nat} {r s : Cl.Rt} (h : R2 w g1 g2 r s) {B : Nat} (hb : Below B w w') (h1 : g1 < B) (h2 : g2 < B) : R2 w' g1 g2 r s := ⟨(hb.block _ h1).trans h.a, (hb.block _ h2).trans h.b⟩
theorem R2.ca {w : World} {g1 g2 : Nat} {r s : Cl.Rt} (h : R2 w g1 g2 r s) : w.cell? ⟨g1, 0, none⟩ = some (.int .i64 r.n) ∧ w.cell? ⟨g1, 1, none⟩ = some (.int .i64 r.d) := ⟨cell_of_row w g1 0 _ _ _ h.a, cell_of_row w g1 1 _ _ _ h.a⟩
theorem R2.cb {w : World} {g1 g2 : Nat} {r s : Cl.Rt} (h : R2 w g1 g2 r s) : w.cell? ⟨g2, 0, none⟩ = some (.int .i64 s.n) ∧ w.cell? ⟨g2, 1, none⟩ = some (.int .i64 s.d) := ⟨cell_of_row w g2 0 _ _ _ h.b, cell_of_row w g2 1 _ _ _ h.b⟩
theorem R2.free {w : World} {g1 g2 : Nat} {r s : Cl.Rt} (h : R2 w g1 g2 r s) (i : Nat) : w.frozen? ⟨g1, i, none⟩ = false ∧ w.frozen? ⟨g2, i, none⟩ = false := by simp [World.frozen?, h.a, h.b]
theorem R2.swap {w : World} {g1 g2 : Nat} {r s : Cl.Rt} (h : R2 w g1 g2 r s) (hn : g1 ≠ g2) (x y : Cl.Rt) :
    R2 ((((w.setCell ⟨g1, 0, none⟩ (.int .i64 x.n)).setCell ⟨g1, 1, none⟩ (.int .i64 x.d)).setCell ⟨g2, 0, none⟩ (.int .i64 y.n)).setCell ⟨g2, 1, none⟩ (.int .i64 y.d)) g1 g2 x y := by
  have e1 : ∀ (u : World) p v, p.block ≠ g1 → (u.setCell p v).heap[g1]? = u.heap[g1]? := fun u p v hp => Below.heap_setCell u p v g1 (Ne.symm hp)
  have e2 : ∀ (u : World) p v, p.block ≠ g2 → (u.setCell p v).heap[g2]? = u.heap[g2]? := fun u p v hp => Below.heap_setCell u p v g2 (Ne.symm hp)
  constructor
  · rw [e1 _ _ _ (Ne.symm hn), e1 _ _ _ (Ne.symm hn)]
    simp [World.setCell, Array.getElem?_modify, h.a]
  · have : ((w.setCell ⟨g1, 0, none⟩ (.int .i64 x.n)).setCell ⟨g1, 1, none⟩ (.int .i64 x.d)).heap[g2]? = w.heap[g2]? := by rw [e2 _ _ _ hn, e2 _ _ _ hn]
    generalize ((w.setCell ⟨g1, 0, none⟩ (.int .i64 x.n)).setCell ⟨g1, 1, none⟩ (.int .i64 x.d)) = u at *
    simp [World.setCell, Array.getElem?_modify, this, h.b]
theorem R2.made (w : World) (r s : Cl.Rt) : R2 ((w.alloc (.cells #[.int .i64 r.n, .int .i64 r.d] 60)).alloc (.cells #[.int .i64 s.n, .int .i64 s.d] 60)) w.heap.size (w.heap.size + 1) r s := by
  have h2 := heap_alloc_new (w.alloc (.cells #[.int .i64 r.n, .int .i64 r.d] 60)) (.cells #[.int .i64 s.n, .int .i64 s.d] 60)
  refine ⟨(((Below.refl _ _).alloc (Nat.le_refl _) _).block _ (by simp)).trans (heap_alloc_new w _), by simpa using h2⟩

theorem of_pos (a b : Int) (w : World) (ha : -1000000000000 ≤ a ∧ a ≤ 1000000000000) (hb : 0 < b ∧ b ≤ 1000000000000) :
    Calls Try.prog 48 #[.int .i64 a, .int .i64 b] w fun e w' => e = .returned (.agg #[.int .i64 a, .int .i64 b]) ∧ Below w.heap.size w w' :=
  (of_any a b w ha (by omega)).mono fun e w' ⟨he, hw⟩ => ⟨by rw [he]; unfold Cl.rof; rw [if_neg (by omega)]; rfl, hw⟩
theorem of_neg (a b a' b' : Int) (w : World) (ha : -1000000000000 ≤ a ∧ a ≤ 1000000000000) (hb : -1000000000000 ≤ b ∧ b < 0) (h1 : a' = -a) (h2 : b' = -b) :
    Calls Try.prog 48 #[.int .i64 a, .int .i64 b] w fun e w' => e = .returned (.agg #[.int .i64 a', .int .i64 b']) ∧ Below w.heap.size w w' :=
  (of_any a b w ha (by omega)).mono fun e w' ⟨he, hw⟩ => ⟨by rw [he]; unfold Cl.rof; rw [if_pos (by omega), h1, h2]; rfl, hw⟩
theorem less_b (r s : Cl.Rt) (b : Bool) (w : World) (hr : Cl.Sm r) (hs : Cl.Sm s) (hb : Cl.rless r s = b) :
    Calls Try.prog 49 #[.agg #[.int .i64 r.n, .int .i64 r.d], .agg #[.int .i64 s.n, .int .i64 s.d]] w fun e w' => e = .returned (.bool b) ∧ Below w.heap.size w w' := by
  subst hb
  obtain ⟨h1, h2, h3, h4⟩ := hr
  obtain ⟨k1, k2, k3, k4⟩ := hs
  exact less_any _ _ _ _ w (by omega) (by omega) (by omega) (by omega)
theorem swap_neg {f d lo hi : Int} (hd : d < 0) (h : lo ≤ hi) : Cl.rless ⟨f - hi, -d⟩ ⟨f - lo, -d⟩ = decide (lo < hi) := by
  unfold Cl.rless
  rw [decide_eq_decide]
  simp only
  constructor
  · intro h1
    have := Int.lt_of_mul_lt_mul_right h1 (by omega)
    omega
  · intro h1
    exact Int.mul_lt_mul_of_pos_right (by omega) (by omega)
theorem swap_lt {f d lo hi : Int} (hd : d < 0) (h : lo < hi) : Cl.rless ⟨f - hi, -d⟩ ⟨f - lo, -d⟩ = true := by rw [swap_neg hd (by omega)]; simpa using h
theorem swap_pos {f d lo hi : Int} (hd : 0 < d) (h : lo ≤ hi) : Cl.rless ⟨hi - f, d⟩ ⟨lo - f, d⟩ = false := by
  unfold Cl.rless
  rw [decide_eq_false_iff_not]
  simp only
  intro h1
  have := Int.lt_of_mul_lt_mul_right h1 (by omega)
  omega

set_option maxHeartbeats 4000000 in
theorem bound_nz (f d lo hi : Int) (s : Cl.St) (gl gh go : Nat) (w : World) (hv : Vars w gl gh go s) (n1 : gl ≠ gh) (n2 : gl ≠ go) (n3 : gh ≠ go) (hd0 : d ≠ 0) (hs : Cl.SmS s)
    (hf : -2097152 ≤ f ∧ f ≤ 2097152) (hl : -2097152 ≤ lo ∧ lo ≤ 2097152) (hh : -2097152 ≤ hi ∧ hi ≤ 2097152) (hd : -4194304 ≤ d ∧ d ≤ 4194304) (hle : lo ≤ hi) :
    Calls Try.prog 47 #[.int .i64 f, .int .i64 d, .int .i64 lo, .int .i64 hi, .pointer (some ⟨go, 0, none⟩), .pointer (some ⟨gl, 0, none⟩), .pointer (some ⟨gh, 0, none⟩)] w
      fun e w' => e = .returned (.tuple #[]) ∧ Vars w' gl gh go (Cl.bnd f d lo hi s) ∧ But (X3 gl gh go) w w' := by
  have hq : (d == 0) = false := by simpa using hd0
  have HS := Lib.hid hs
  obtain ⟨sm1, sm2⟩ := Cl.loR_sm hf hl hh hd hd0
  have SM1 := Lib.hid sm1; have SM2 := Lib.hid sm2; clear sm1 sm2 hs
  have HBND : Hid (∀ lw hg, lw = (if Cl.rless s.low (Cl.loR f d lo hi) then Cl.loR f d lo hi else s.low) → hg = (if Cl.rless (Cl.hiR f d lo hi) s.high then Cl.hiR f d lo hi else s.high) → Cl.bnd f d lo hi s = ⟨lw, hg, s.ok⟩) := Lib.hid (by
    intro lw hg h1 h2; unfold Cl.bnd; rw [if_neg hd0, h1, h2])
  obtain ⟨lt1, lt2, lt3⟩ := hv.lt
  have HV := Lib.hid hv; clear hv
  obtain ⟨hf1, hf2⟩ := hf; obtain ⟨hl1, hl2⟩ := hl; obtain ⟨hh1, hh2⟩ := hh; obtain ⟨hd1, hd2⟩ := hd
  have HD0 := Lib.hid hd0; clear hd0
  by_cases hsg : d < 0
  · by_cases hlt : lo < hi
    · have EL : Hid (Cl.loR f d lo hi = ⟨f - hi, -d⟩) := Lib.hid (if_pos hsg); have EH : Hid (Cl.hiR f d lo hi = ⟨f - lo, -d⟩) := Lib.hid (if_pos hsg)
      rw [EL.out, EH.out] at HBND; rw [EL.out] at SM1; rw [EH.out] at SM2; clear EL EH
      go_enter Try.func47, Try.ntmps47
      go_wp2_with fail
      refine (of_neg (lo - f) d (f - lo) (-d) _ (by omega) (by omega) (by omega) rfl).mono ?_
      rintro e w1 ⟨rfl, hb1⟩
      have B1 := Lib.hid hb1; clear hb1
      go_wp2_with fail
      refine (of_neg (hi - f) d (f - hi) (-d) _ (by omega) (by omega) (by omega) rfl).mono ?_
      rintro e w2 ⟨rfl, hb1⟩
      have B2 := Lib.hid (B1.out.trans (hb1.mono B1.out.size)); clear hb1 B1
      obtain ⟨q1, hq1⟩ : ∃ q, w2.heap.size = q := ⟨_, rfl⟩
      have hsz : w.heap.size ≤ q1 := by have := B2.out.size; omega
      have Y2 : Hid (R2 ((w2.alloc (.cells #[.int .i64 (f - lo), .int .i64 (-d)] 60)).alloc (.cells #[.int .i64 (f - hi), .int .i64 (-d)] 60)) q1 (q1 + 1) ⟨f - lo, -d⟩ ⟨f - hi, -d⟩) := Lib.hid (by have := R2.made w2 ⟨f - lo, -d⟩ ⟨f - hi, -d⟩; rwa [hq1] at this)
      have B3 : Hid (Below w.heap.size w ((w2.alloc (.cells #[.int .i64 (f - lo), .int .i64 (-d)] 60)).alloc (.cells #[.int .i64 (f - hi), .int .i64 (-d)] 60))) := Lib.hid ((B2.out.alloc (by omega) _).alloc (by simp; omega) _)
      have Z2 : Hid (((w2.alloc (.cells #[.int .i64 (f - lo), .int .i64 (-d)] 60)).alloc (.cells #[.int .i64 (f - hi), .int .i64 (-d)] 60)).heap.size = q1 + 1 + 1) := Lib.hid (by simp [hq1])
      have d1 : gl ≠ q1 := by omega
      have d2 : gh ≠ q1 := by omega
      have d3 : gl ≠ q1 + 1 := by omega
      have d4 : gh ≠ q1 + 1 := by omega
      go_wp2_with fail
      have HW2 := Lib.hid (swap_lt (f := f) hsg hlt)
      refine (less_b ⟨f - hi, -d⟩ ⟨f - lo, -d⟩ true _ SM1.out SM2.out HW2.out).mono ?_
      rintro e w3 ⟨rfl, hb1⟩
      have Y3 := Lib.hid (Y2.out.keep hb1 (by rw [Z2.out]; omega) (by rw [Z2.out]; omega)); have B4 := Lib.hid (B3.out.trans (hb1.mono B3.out.size)); have hz3 : q1 + 1 + 1 ≤ w3.heap.size := by have := hb1.size; rwa [Z2.out] at this
      clear hb1 Y2 B3
      have V3 := Lib.hid (HV.out.keep B4.out lt1 lt2 lt3)
      obtain ⟨a0, a1⟩ := Y3.out.ca; obtain ⟨c0, c1⟩ := Y3.out.cb; obtain ⟨l0, l1⟩ := V3.out.low_c; obtain ⟨h0, h1⟩ := V3.out.high_c; obtain ⟨fl, fh, _⟩ := V3.out.free 0; obtain ⟨fl1, fh1, _⟩ := V3.out.free 1; simp only at a0 a1 c0 c1
      obtain ⟨f0, f1⟩ := Y3.out.free 0; obtain ⟨f2, f3⟩ := Y3.out.free 1
      have Y : Hid (R2 ((((w3.setCell ⟨q1, 0, none⟩ (.int .i64 (f - hi))).setCell ⟨q1, 1, none⟩ (.int .i64 (-d))).setCell ⟨q1 + 1, 0, none⟩ (.int .i64 (f - lo))).setCell ⟨q1 + 1, 1, none⟩ (.int .i64 (-d))) q1 (q1 + 1) ⟨f - hi, -d⟩ ⟨f - lo, -d⟩) := Lib.hid (Y3.out.swap (by omega) ⟨f - hi, -d⟩ ⟨f - lo, -d⟩)
      have B : Hid (Below w.heap.size w ((((w3.setCell ⟨q1, 0, none⟩ (.int .i64 (f - hi))).setCell ⟨q1, 1, none⟩ (.int .i64 (-d))).setCell ⟨q1 + 1, 0, none⟩ (.int .i64 (f - lo))).setCell ⟨q1 + 1, 1, none⟩ (.int .i64 (-d)))) := Lib.hid ((((B4.out.setCell (by simp; omega) _).setCell (by simp; omega) _).setCell (by simp; omega) _).setCell (by simp; omega) _)
      have hz4 : q1 + 1 + 1 ≤ (((((w3.setCell ⟨q1, 0, none⟩ (.int .i64 (f - hi))).setCell ⟨q1, 1, none⟩ (.int .i64 (-d))).setCell ⟨q1 + 1, 0, none⟩ (.int .i64 (f - lo))).setCell ⟨q1 + 1, 1, none⟩ (.int .i64 (-d)))).heap.size := by simpa using hz3
      have V := Lib.hid (HV.out.keep B.out lt1 lt2 lt3)
      go_wp2_with fail
      clear a0 a1 c0 c1 l0 l1 h0 h1 fl fh fl1 fh1 f0 f1 f2 f3 hz3
      generalize ((((w3.setCell ⟨q1, 0, none⟩ (.int .i64 (f - hi))).setCell ⟨q1, 1, none⟩ (.int .i64 (-d))).setCell ⟨q1 + 1, 0, none⟩ (.int .i64 (f - lo))).setCell ⟨q1 + 1, 1, none⟩ (.int .i64 (-d))) = w4 at *
      rcases hlow : Cl.rless s.low ⟨f - hi, -d⟩ with _ | _
      · have HL := Lib.hid hlow; clear hlow
        refine (less_b s.low ⟨f - hi, -d⟩ false _ HS.out.low SM1.out HL.out).mono ?_
        rintro e u1 ⟨rfl, hb1⟩
        have YU := Lib.hid (Y.out.keep hb1 (by omega) (by omega)); have VU := Lib.hid (V.out.keep hb1 (by omega) (by omega) (by omega)); have BU := Lib.hid (B.out.trans (hb1.mono B.out.size)); have hz := hb1.size; clear hb1
        obtain ⟨a0, a1⟩ := YU.out.ca; obtain ⟨c0, c1⟩ := YU.out.cb; obtain ⟨l0, l1⟩ := VU.out.low_c; obtain ⟨h0, h1⟩ := VU.out.high_c; obtain ⟨fl, fh, _⟩ := VU.out.free 0; obtain ⟨fl1, fh1, _⟩ := VU.out.free 1; simp only at a0 a1 c0 c1
        have VW := VU; have YW := YU; have BW : Hid (But (X3 gl gh go) w u1) := Lib.hid (But.of_below BU.out); have hz2 := Nat.le_refl u1.heap.size
        go_wp2_with fail
        clear a0 a1 c0 c1 l0 l1 h0 h1 fl fh fl1 fh1
        rcases hhigh : Cl.rless ⟨f - lo, -d⟩ s.high with _ | _
        · have HH := Lib.hid hhigh; clear hhigh
          refine (less_b ⟨f - lo, -d⟩ s.high false _ SM2.out HS.out.high HH.out).mono ?_
          rintro e u3 ⟨rfl, hb1⟩
          have V3 := Lib.hid (VW.out.keep hb1 (by omega) (by omega) (by omega)); have Y3 := Lib.hid (YW.out.keep hb1 (by omega) (by omega)); have B3 := Lib.hid (BW.out.trans (But.of_below hb1)); clear hb1
          go_wp2
          refine bodyPost_end (results_none (by rfl) _ _ _) rfl ?_
          refine ⟨rfl, ?_, B3.out⟩
          rw [HBND.out s.low s.high (by rw [HL.out]; rfl) (by rw [HH.out]; rfl)]; exact V3.out
        · have HH := Lib.hid hhigh; clear hhigh
          refine (less_b ⟨f - lo, -d⟩ s.high true _ SM2.out HS.out.high HH.out).mono ?_
          rintro e u3 ⟨rfl, hb1⟩
          have V3 := Lib.hid (VW.out.keep hb1 (by omega) (by omega) (by omega)); have Y3 := Lib.hid (YW.out.keep hb1 (by omega) (by omega)); have B3 := Lib.hid (BW.out.trans (But.of_below hb1)); clear hb1
          obtain ⟨a0, a1⟩ := Y3.out.ca; obtain ⟨c0, c1⟩ := Y3.out.cb; obtain ⟨l0, l1⟩ := V3.out.low_c; obtain ⟨h0, h1⟩ := V3.out.high_c; obtain ⟨fl, fh, _⟩ := V3.out.free 0; obtain ⟨fl1, fh1, _⟩ := V3.out.free 1; simp only at a0 a1 c0 c1
          go_wp2
          refine bodyPost_end (results_none (by rfl) _ _ _) rfl ?_
          have VF := V3.out.set_high (Ne.symm n3) n1 ⟨f - lo, -d⟩
          refine ⟨rfl, ?_, ((B3.out.set (.inr (.inl rfl)) _).set (.inr (.inl rfl)) _)⟩
          rw [HBND.out s.low ⟨f - lo, -d⟩ (by rw [HL.out]; rfl) (by rw [HH.out]; rfl)]; exact VF
      · have HL := Lib.hid hlow; clear hlow
        refine (less_b s.low ⟨f - hi, -d⟩ true _ HS.out.low SM1.out HL.out).mono ?_
        rintro e u1 ⟨rfl, hb1⟩
        have YU := Lib.hid (Y.out.keep hb1 (by omega) (by omega)); have VU := Lib.hid (V.out.keep hb1 (by omega) (by omega) (by omega)); have BU := Lib.hid (B.out.trans (hb1.mono B.out.size)); have hz := hb1.size; clear hb1
        obtain ⟨a0, a1⟩ := YU.out.ca; obtain ⟨c0, c1⟩ := YU.out.cb; obtain ⟨l0, l1⟩ := VU.out.low_c; obtain ⟨h0, h1⟩ := VU.out.high_c; obtain ⟨fl, fh, _⟩ := VU.out.free 0; obtain ⟨fl1, fh1, _⟩ := VU.out.free 1; simp only at a0 a1 c0 c1
        have VW : Hid (Vars ((u1.setCell ⟨gl, 0, none⟩ (.int .i64 (f - hi))).setCell ⟨gl, 1, none⟩ (.int .i64 (-d))) gl gh go ⟨⟨f - hi, -d⟩, s.high, s.ok⟩) := Lib.hid (VU.out.set_low (Ne.symm n2) (Ne.symm n1) ⟨f - hi, -d⟩)
        have BW : Hid (But (X3 gl gh go) w ((u1.setCell ⟨gl, 0, none⟩ (.int .i64 (f - hi))).setCell ⟨gl, 1, none⟩ (.int .i64 (-d)))) := Lib.hid (((But.of_below BU.out).set (.inl rfl) _).set (.inl rfl) _)
        have YW : Hid (R2 ((u1.setCell ⟨gl, 0, none⟩ (.int .i64 (f - hi))).setCell ⟨gl, 1, none⟩ (.int .i64 (-d))) q1 (q1 + 1) ⟨f - hi, -d⟩ ⟨f - lo, -d⟩) := Lib.hid ⟨((Below.heap_setCell _ _ _ _ (by show q1 ≠ gl; omega)).trans (Below.heap_setCell _ _ _ _ (by show q1 ≠ gl; omega))).trans YU.out.a, ((Below.heap_setCell _ _ _ _ (by show q1 + 1 ≠ gl; omega)).trans (Below.heap_setCell _ _ _ _ (by show q1 + 1 ≠ gl; omega))).trans YU.out.b⟩
        have hz2 : u1.heap.size ≤ (((u1.setCell ⟨gl, 0, none⟩ (.int .i64 (f - hi))).setCell ⟨gl, 1, none⟩ (.int .i64 (-d)))).heap.size := by simp
        go_wp2_with fail
        clear a0 a1 c0 c1 l0 l1 h0 h1 fl fh fl1 fh1
        generalize ((u1.setCell ⟨gl, 0, none⟩ (.int .i64 (f - hi))).setCell ⟨gl, 1, none⟩ (.int .i64 (-d))) = u2 at *
        rcases hhigh : Cl.rless ⟨f - lo, -d⟩ s.high with _ | _
        · have HH := Lib.hid hhigh; clear hhigh
          refine (less_b ⟨f - lo, -d⟩ s.high false _ SM2.out HS.out.high HH.out).mono ?_
          rintro e u3 ⟨rfl, hb1⟩
          have V3 := Lib.hid (VW.out.keep hb1 (by omega) (by omega) (by omega)); have Y3 := Lib.hid (YW.out.keep hb1 (by omega) (by omega)); have B3 := Lib.hid (BW.out.trans (But.of_below hb1)); clear hb1
          go_wp2
          refine bodyPost_end (results_none (by rfl) _ _ _) rfl ?_
          refine ⟨rfl, ?_, B3.out⟩
          rw [HBND.out ⟨f - hi, -d⟩ s.high (by rw [HL.out]; rfl) (by rw [HH.out]; rfl)]; exact V3.out
        · have HH := Lib.hid hhigh; clear hhigh
          refine (less_b ⟨f - lo, -d⟩ s.high true _ SM2.out HS.out.high HH.out).mono ?_
          rintro e u3 ⟨rfl, hb1⟩
          have V3 := Lib.hid (VW.out.keep hb1 (by omega) (by omega) (by omega)); have Y3 := Lib.hid (YW.out.keep hb1 (by omega) (by omega)); have B3 := Lib.hid (BW.out.trans (But.of_below hb1)); clear hb1
          obtain ⟨a0, a1⟩ := Y3.out.ca; obtain ⟨c0, c1⟩ := Y3.out.cb; obtain ⟨l0, l1⟩ := V3.out.low_c; obtain ⟨h0, h1⟩ := V3.out.high_c; obtain ⟨fl, fh, _⟩ := V3.out.free 0; obtain ⟨fl1, fh1, _⟩ := V3.out.free 1; simp only at a0 a1 c0 c1
          go_wp2
          refine bodyPost_end (results_none (by rfl) _ _ _) rfl ?_
          have VF := V3.out.set_high (Ne.symm n3) n1 ⟨f - lo, -d⟩
          refine ⟨rfl, ?_, ((B3.out.set (.inr (.inl rfl)) _).set (.inr (.inl rfl)) _)⟩
          rw [HBND.out ⟨f - hi, -d⟩ ⟨f - lo, -d⟩ (by rw [HL.out]; rfl) (by rw [HH.out]; rfl)]; exact VF
    · obtain rfl : hi = lo := by omega
      have EL : Hid (Cl.loR f d hi hi = ⟨f - hi, -d⟩) := Lib.hid (if_pos hsg); have EH : Hid (Cl.hiR f d hi hi = ⟨f - hi, -d⟩) := Lib.hid (if_pos hsg)
      rw [EL.out, EH.out] at HBND; rw [EL.out] at SM1; rw [EH.out] at SM2; clear EL EH
      go_enter Try.func47, Try.ntmps47
      go_wp2_with fail
      refine (of_neg (hi - f) d (f - hi) (-d) _ (by omega) (by omega) (by omega) rfl).mono ?_
      rintro e w1 ⟨rfl, hb1⟩
      have B1 := Lib.hid hb1; clear hb1
      go_wp2_with fail
      refine (of_neg (hi - f) d (f - hi) (-d) _ (by omega) (by omega) (by omega) rfl).mono ?_
      rintro e w2 ⟨rfl, hb1⟩
      have B2 := Lib.hid (B1.out.trans (hb1.mono B1.out.size)); clear hb1 B1
      obtain ⟨q1, hq1⟩ : ∃ q, w2.heap.size = q := ⟨_, rfl⟩
      have hsz : w.heap.size ≤ q1 := by have := B2.out.size; omega
      have Y2 : Hid (R2 ((w2.alloc (.cells #[.int .i64 (f - hi), .int .i64 (-d)] 60)).alloc (.cells #[.int .i64 (f - hi), .int .i64 (-d)] 60)) q1 (q1 + 1) ⟨f - hi, -d⟩ ⟨f - hi, -d⟩) := Lib.hid (by have := R2.made w2 ⟨f - hi, -d⟩ ⟨f - hi, -d⟩; rwa [hq1] at this)
      have B3 : Hid (Below w.heap.size w ((w2.alloc (.cells #[.int .i64 (f - hi), .int .i64 (-d)] 60)).alloc (.cells #[.int .i64 (f - hi), .int .i64 (-d)] 60))) := Lib.hid ((B2.out.alloc (by omega) _).alloc (by simp; omega) _)
      have Z2 : Hid (((w2.alloc (.cells #[.int .i64 (f - hi), .int .i64 (-d)] 60)).alloc (.cells #[.int .i64 (f - hi), .int .i64 (-d)] 60)).heap.size = q1 + 1 + 1) := Lib.hid (by simp [hq1])
      have d1 : gl ≠ q1 := by omega
      have d2 : gh ≠ q1 := by omega
      have d3 : gl ≠ q1 + 1 := by omega
      have d4 : gh ≠ q1 + 1 := by omega
      go_wp2_with fail
      have HW2 : Hid (Cl.rless ⟨f - hi, -d⟩ ⟨f - hi, -d⟩ = false) := Lib.hid (by simp [Cl.rless])
      refine (less_b ⟨f - hi, -d⟩ ⟨f - hi, -d⟩ false _ SM1.out SM2.out HW2.out).mono ?_
      rintro e w3 ⟨rfl, hb1⟩
      have Y3 := Lib.hid (Y2.out.keep hb1 (by rw [Z2.out]; omega) (by rw [Z2.out]; omega)); have B4 := Lib.hid (B3.out.trans (hb1.mono B3.out.size)); have hz3 : q1 + 1 + 1 ≤ w3.heap.size := by have := hb1.size; rwa [Z2.out] at this
      clear hb1 Y2 B3
      have V3 := Lib.hid (HV.out.keep B4.out lt1 lt2 lt3)
      obtain ⟨a0, a1⟩ := Y3.out.ca; obtain ⟨c0, c1⟩ := Y3.out.cb; obtain ⟨l0, l1⟩ := V3.out.low_c; obtain ⟨h0, h1⟩ := V3.out.high_c; obtain ⟨fl, fh, _⟩ := V3.out.free 0; obtain ⟨fl1, fh1, _⟩ := V3.out.free 1; simp only at a0 a1 c0 c1
      have Y := Y3; have B := B4; have hz4 := hz3
      have V := Lib.hid (HV.out.keep B.out lt1 lt2 lt3)
      go_wp2_with fail
      clear a0 a1 c0 c1 l0 l1 h0 h1 fl fh fl1 fh1
      rcases hlow : Cl.rless s.low ⟨f - hi, -d⟩ with _ | _
      · have HL := Lib.hid hlow; clear hlow
        refine (less_b s.low ⟨f - hi, -d⟩ false _ HS.out.low SM1.out HL.out).mono ?_
        rintro e u1 ⟨rfl, hb1⟩
        have YU := Lib.hid (Y.out.keep hb1 (by omega) (by omega)); have VU := Lib.hid (V.out.keep hb1 (by omega) (by omega) (by omega)); have BU := Lib.hid (B.out.trans (hb1.mono B.out.size)); have hz := hb1.size; clear hb1
        obtain ⟨a0, a1⟩ := YU.out.ca; obtain ⟨c0, c1⟩ := YU.out.cb; obtain ⟨l0, l1⟩ := VU.out.low_c; obtain ⟨h0, h1⟩ := VU.out.high_c; obtain ⟨fl, fh, _⟩ := VU.out.free 0; obtain ⟨fl1, fh1, _⟩ := VU.out.free 1; simp only at a0 a1 c0 c1
        have VW := VU; have YW := YU; have BW : Hid (But (X3 gl gh go) w u1) := Lib.hid (But.of_below BU.out); have hz2 := Nat.le_refl u1.heap.size
        go_wp2_with fail
        clear a0 a1 c0 c1 l0 l1 h0 h1 fl fh fl1 fh1
        rcases hhigh : Cl.rless ⟨f - hi, -d⟩ s.high with _ | _
        · have HH := Lib.hid hhigh; clear hhigh
          refine (less_b ⟨f - hi, -d⟩ s.high false _ SM2.out HS.out.high HH.out).mono ?_
          rintro e u3 ⟨rfl, hb1⟩
          have V3 := Lib.hid (VW.out.keep hb1 (by omega) (by omega) (by omega)); have Y3 := Lib.hid (YW.out.keep hb1 (by omega) (by omega)); have B3 := Lib.hid (BW.out.trans (But.of_below hb1)); clear hb1
          go_wp2
          refine bodyPost_end (results_none (by rfl) _ _ _) rfl ?_
          refine ⟨rfl, ?_, B3.out⟩
          rw [HBND.out s.low s.high (by rw [HL.out]; rfl) (by rw [HH.out]; rfl)]; exact V3.out
        · have HH := Lib.hid hhigh; clear hhigh
          refine (less_b ⟨f - hi, -d⟩ s.high true _ SM2.out HS.out.high HH.out).mono ?_
          rintro e u3 ⟨rfl, hb1⟩
          have V3 := Lib.hid (VW.out.keep hb1 (by omega) (by omega) (by omega)); have Y3 := Lib.hid (YW.out.keep hb1 (by omega) (by omega)); have B3 := Lib.hid (BW.out.trans (But.of_below hb1)); clear hb1
          obtain ⟨a0, a1⟩ := Y3.out.ca; obtain ⟨c0, c1⟩ := Y3.out.cb; obtain ⟨l0, l1⟩ := V3.out.low_c; obtain ⟨h0, h1⟩ := V3.out.high_c; obtain ⟨fl, fh, _⟩ := V3.out.free 0; obtain ⟨fl1, fh1, _⟩ := V3.out.free 1; simp only at a0 a1 c0 c1
          go_wp2
          refine bodyPost_end (results_none (by rfl) _ _ _) rfl ?_
          have VF := V3.out.set_high (Ne.symm n3) n1 ⟨f - hi, -d⟩
          refine ⟨rfl, ?_, ((B3.out.set (.inr (.inl rfl)) _).set (.inr (.inl rfl)) _)⟩
          rw [HBND.out s.low ⟨f - hi, -d⟩ (by rw [HL.out]; rfl) (by rw [HH.out]; rfl)]; exact VF
      · have HL := Lib.hid hlow; clear hlow
        refine (less_b s.low ⟨f - hi, -d⟩ true _ HS.out.low SM1.out HL.out).mono ?_
        rintro e u1 ⟨rfl, hb1⟩
        have YU := Lib.hid (Y.out.keep hb1 (by omega) (by omega)); have VU := Lib.hid (V.out.keep hb1 (by omega) (by omega) (by omega)); have BU := Lib.hid (B.out.trans (hb1.mono B.out.size)); have hz := hb1.size; clear hb1
        obtain ⟨a0, a1⟩ := YU.out.ca; obtain ⟨c0, c1⟩ := YU.out.cb; obtain ⟨l0, l1⟩ := VU.out.low_c; obtain ⟨h0, h1⟩ := VU.out.high_c; obtain ⟨fl, fh, _⟩ := VU.out.free 0; obtain ⟨fl1, fh1, _⟩ := VU.out.free 1; simp only at a0 a1 c0 c1
        have VW : Hid (Vars ((u1.setCell ⟨gl, 0, none⟩ (.int .i64 (f - hi))).setCell ⟨gl, 1, none⟩ (.int .i64 (-d))) gl gh go ⟨⟨f - hi, -d⟩, s.high, s.ok⟩) := Lib.hid (VU.out.set_low (Ne.symm n2) (Ne.symm n1) ⟨f - hi, -d⟩)
        have BW : Hid (But (X3 gl gh go) w ((u1.setCell ⟨gl, 0, none⟩ (.int .i64 (f - hi))).setCell ⟨gl, 1, none⟩ (.int .i64 (-d)))) := Lib.hid (((But.of_below BU.out).set (.inl rfl) _).set (.inl rfl) _)
        have YW : Hid (R2 ((u1.setCell ⟨gl, 0, none⟩ (.int .i64 (f - hi))).setCell ⟨gl, 1, none⟩ (.int .i64 (-d))) q1 (q1 + 1) ⟨f - hi, -d⟩ ⟨f - hi, -d⟩) := Lib.hid ⟨((Below.heap_setCell _ _ _ _ (by show q1 ≠ gl; omega)).trans (Below.heap_setCell _ _ _ _ (by show q1 ≠ gl; omega))).trans YU.out.a, ((Below.heap_setCell _ _ _ _ (by show q1 + 1 ≠ gl; omega)).trans (Below.heap_setCell _ _ _ _ (by show q1 + 1 ≠ gl; omega))).trans YU.out.b⟩
        have hz2 : u1.heap.size ≤ (((u1.setCell ⟨gl, 0, none⟩ (.int .i64 (f - hi))).setCell ⟨gl, 1, none⟩ (.int .i64 (-d)))).heap.size := by simp
        go_wp2_with fail
        clear a0 a1 c0 c1 l0 l1 h0 h1 fl fh fl1 fh1
        generalize ((u1.setCell ⟨gl, 0, none⟩ (.int .i64 (f - hi))).setCell ⟨gl, 1, none⟩ (.int .i64 (-d))) = u2 at *
        rcases hhigh : Cl.rless ⟨f - hi, -d⟩ s.high with _ | _
        · have HH := Lib.hid hhigh; clear hhigh
          refine (less_b ⟨f - hi, -d⟩ s.high false _ SM2.out HS.out.high HH.out).mono ?_
          rintro e u3 ⟨rfl, hb1⟩
          have V3 := Lib.hid (VW.out.keep hb1 (by omega) (by omega) (by omega)); have Y3 := Lib.hid (YW.out.keep hb1 (by omega) (by omega)); have B3 := Lib.hid (BW.out.trans (But.of_below hb1)); clear hb1
          go_wp2
          refine bodyPost_end (results_none (by rfl) _ _ _) rfl ?_
          refine ⟨rfl, ?_, B3.out⟩
          rw [HBND.out ⟨f - hi, -d⟩ s.high (by rw [HL.out]; rfl) (by rw [HH.out]; rfl)]; exact V3.out
        · have HH := Lib.hid hhigh; clear hhigh
          refine (less_b ⟨f - hi, -d⟩ s.high true _ SM2.out HS.out.high HH.out).mono ?_
          rintro e u3 ⟨rfl, hb1⟩
          have V3 := Lib.hid (VW.out.keep hb1 (by omega) (by omega) (by omega)); have Y3 := Lib.hid (YW.out.keep hb1 (by omega) (by omega)); have B3 := Lib.hid (BW.out.trans (But.of_below hb1)); clear hb1
          obtain ⟨a0, a1⟩ := Y3.out.ca; obtain ⟨c0, c1⟩ := Y3.out.cb; obtain ⟨l0, l1⟩ := V3.out.low_c; obtain ⟨h0, h1⟩ := V3.out.high_c; obtain ⟨fl, fh, _⟩ := V3.out.free 0; obtain ⟨fl1, fh1, _⟩ := V3.out.free 1; simp only at a0 a1 c0 c1
          go_wp2
          refine bodyPost_end (results_none (by rfl) _ _ _) rfl ?_
          have VF := V3.out.set_high (Ne.symm n3) n1 ⟨f - hi, -d⟩
          refine ⟨rfl, ?_, ((B3.out.set (.inr (.inl rfl)) _).set (.inr (.inl rfl)) _)⟩
          rw [HBND.out ⟨f - hi, -d⟩ ⟨f - hi, -d⟩ (by rw [HL.out]; rfl) (by rw [HH.out]; rfl)]; exact VF
  · have EL : Hid (Cl.loR f d lo hi = ⟨lo - f, d⟩) := Lib.hid (if_neg hsg); have EH : Hid (Cl.hiR f d lo hi = ⟨hi - f, d⟩) := Lib.hid (if_neg hsg)
    have hd3 : 0 < d := by have := HD0.out; omega
    rw [EL.out, EH.out] at HBND; rw [EL.out] at SM1; rw [EH.out] at SM2; clear EL EH
    go_enter Try.func47, Try.ntmps47
    go_wp2_with fail
    refine (of_pos (lo - f) d _ (by omega) (by omega)).mono ?_
    rintro e w1 ⟨rfl, hb1⟩
    have B1 := Lib.hid hb1; clear hb1
    go_wp2_with fail
    refine (of_pos (hi - f) d _ (by omega) (by omega)).mono ?_
    rintro e w2 ⟨rfl, hb1⟩
    have B2 := Lib.hid (B1.out.trans (hb1.mono B1.out.size)); clear hb1 B1
    obtain ⟨q1, hq1⟩ : ∃ q, w2.heap.size = q := ⟨_, rfl⟩
    have hsz : w.heap.size ≤ q1 := by have := B2.out.size; omega
    have Y2 : Hid (R2 ((w2.alloc (.cells #[.int .i64 (lo - f), .int .i64 (d)] 60)).alloc (.cells #[.int .i64 (hi - f), .int .i64 (d)] 60)) q1 (q1 + 1) ⟨lo - f, d⟩ ⟨hi - f, d⟩) := Lib.hid (by have := R2.made w2 ⟨lo - f, d⟩ ⟨hi - f, d⟩; rwa [hq1] at this)
    have B3 : Hid (Below w.heap.size w ((w2.alloc (.cells #[.int .i64 (lo - f), .int .i64 (d)] 60)).alloc (.cells #[.int .i64 (hi - f), .int .i64 (d)] 60))) := Lib.hid ((B2.out.alloc (by omega) _).alloc (by simp; omega) _)
    have Z2 : Hid (((w2.alloc (.cells #[.int .i64 (lo - f), .int .i64 (d)] 60)).alloc (.cells #[.int .i64 (hi - f), .int .i64 (d)] 60)).heap.size = q1 + 1 + 1) := Lib.hid (by simp [hq1])
    have d1 : gl ≠ q1 := by omega
    have d2 : gh ≠ q1 := by omega
    have d3 : gl ≠ q1 + 1 := by omega
    have d4 : gh ≠ q1 + 1 := by omega
    go_wp2_with fail
    have HW2 := Lib.hid (swap_pos (f := f) (d := d) (by omega) hle)
    refine (less_b ⟨hi - f, d⟩ ⟨lo - f, d⟩ false _ SM2.out SM1.out HW2.out).mono ?_
    rintro e w3 ⟨rfl, hb1⟩
    have Y3 := Lib.hid (Y2.out.keep hb1 (by rw [Z2.out]; omega) (by rw [Z2.out]; omega)); have B4 := Lib.hid (B3.out.trans (hb1.mono B3.out.size)); have hz3 : q1 + 1 + 1 ≤ w3.heap.size := by have := hb1.size; rwa [Z2.out] at this
    clear hb1 Y2 B3
    have V3 := Lib.hid (HV.out.keep B4.out lt1 lt2 lt3)
    obtain ⟨a0, a1⟩ := Y3.out.ca; obtain ⟨c0, c1⟩ := Y3.out.cb; obtain ⟨l0, l1⟩ := V3.out.low_c; obtain ⟨h0, h1⟩ := V3.out.high_c; obtain ⟨fl, fh, _⟩ := V3.out.free 0; obtain ⟨fl1, fh1, _⟩ := V3.out.free 1; simp only at a0 a1 c0 c1
    have Y := Y3; have B := B4; have hz4 := hz3
    have V := Lib.hid (HV.out.keep B.out lt1 lt2 lt3)
    go_wp2_with fail
    clear a0 a1 c0 c1 l0 l1 h0 h1 fl fh fl1 fh1
    rcases hlow : Cl.rless s.low ⟨lo - f, d⟩ with _ | _
    · have HL := Lib.hid hlow; clear hlow
      refine (less_b s.low ⟨lo - f, d⟩ false _ HS.out.low SM1.out HL.out).mono ?_
      rintro e u1 ⟨rfl, hb1⟩
      have YU := Lib.hid (Y.out.keep hb1 (by omega) (by omega)); have VU := Lib.hid (V.out.keep hb1 (by omega) (by omega) (by omega)); have BU := Lib.hid (B.out.trans (hb1.mono B.out.size)); have hz := hb1.size; clear hb1
      obtain ⟨a0, a1⟩ := YU.out.ca; obtain ⟨c0, c1⟩ := YU.out.cb; obtain ⟨l0, l1⟩ := VU.out.low_c; obtain ⟨h0, h1⟩ := VU.out.high_c; obtain ⟨fl, fh, _⟩ := VU.out.free 0; obtain ⟨fl1, fh1, _⟩ := VU.out.free 1; simp only at a0 a1 c0 c1
      have VW := VU; have YW := YU; have BW : Hid (But (X3 gl gh go) w u1) := Lib.hid (But.of_below BU.out); have hz2 := Nat.le_refl u1.heap.size
      go_wp2_with fail
      clear a0 a1 c0 c1 l0 l1 h0 h1 fl fh fl1 fh1
      rcases hhigh : Cl.rless ⟨hi - f, d⟩ s.high with _ | _
      · have HH := Lib.hid hhigh; clear hhigh
        refine (less_b ⟨hi - f, d⟩ s.high false _ SM2.out HS.out.high HH.out).mono ?_
        rintro e u3 ⟨rfl, hb1⟩
        have V3 := Lib.hid (VW.out.keep hb1 (by omega) (by omega) (by omega)); have Y3 := Lib.hid (YW.out.keep hb1 (by omega) (by omega)); have B3 := Lib.hid (BW.out.trans (But.of_below hb1)); clear hb1
        go_wp2
        refine bodyPost_end (results_none (by rfl) _ _ _) rfl ?_
        refine ⟨rfl, ?_, B3.out⟩
        rw [HBND.out s.low s.high (by rw [HL.out]; rfl) (by rw [HH.out]; rfl)]; exact V3.out
      · have HH := Lib.hid hhigh; clear hhigh
        refine (less_b ⟨hi - f, d⟩ s.high true _ SM2.out HS.out.high HH.out).mono ?_
        rintro e u3 ⟨rfl, hb1⟩
        have V3 := Lib.hid (VW.out.keep hb1 (by omega) (by omega) (by omega)); have Y3 := Lib.hid (YW.out.keep hb1 (by omega) (by omega)); have B3 := Lib.hid (BW.out.trans (But.of_below hb1)); clear hb1
        obtain ⟨a0, a1⟩ := Y3.out.ca; obtain ⟨c0, c1⟩ := Y3.out.cb; obtain ⟨l0, l1⟩ := V3.out.low_c; obtain ⟨h0, h1⟩ := V3.out.high_c; obtain ⟨fl, fh, _⟩ := V3.out.free 0; obtain ⟨fl1, fh1, _⟩ := V3.out.free 1; simp only at a0 a1 c0 c1
        go_wp2
        refine bodyPost_end (results_none (by rfl) _ _ _) rfl ?_
        have VF := V3.out.set_high (Ne.symm n3) n1 ⟨hi - f, d⟩
        refine ⟨rfl, ?_, ((B3.out.set (.inr (.inl rfl)) _).set (.inr (.inl rfl)) _)⟩
        rw [HBND.out s.low ⟨hi - f, d⟩ (by rw [HL.out]; rfl) (by rw [HH.out]; rfl)]; exact VF
    · have HL := Lib.hid hlow; clear hlow
      refine (less_b s.low ⟨lo - f, d⟩ true _ HS.out.low SM1.out HL.out).mono ?_
      rintro e u1 ⟨rfl, hb1⟩
      have YU := Lib.hid (Y.out.keep hb1 (by omega) (by omega)); have VU := Lib.hid (V.out.keep hb1 (by omega) (by omega) (by omega)); have BU := Lib.hid (B.out.trans (hb1.mono B.out.size)); have hz := hb1.size; clear hb1
      obtain ⟨a0, a1⟩ := YU.out.ca; obtain ⟨c0, c1⟩ := YU.out.cb; obtain ⟨l0, l1⟩ := VU.out.low_c; obtain ⟨h0, h1⟩ := VU.out.high_c; obtain ⟨fl, fh, _⟩ := VU.out.free 0; obtain ⟨fl1, fh1, _⟩ := VU.out.free 1; simp only at a0 a1 c0 c1
      have VW : Hid (Vars ((u1.setCell ⟨gl, 0, none⟩ (.int .i64 (lo - f))).setCell ⟨gl, 1, none⟩ (.int .i64 (d))) gl gh go ⟨⟨lo - f, d⟩, s.high, s.ok⟩) := Lib.hid (VU.out.set_low (Ne.symm n2) (Ne.symm n1) ⟨lo - f, d⟩)
      have BW : Hid (But (X3 gl gh go) w ((u1.setCell ⟨gl, 0, none⟩ (.int .i64 (lo - f))).setCell ⟨gl, 1, none⟩ (.int .i64 (d)))) := Lib.hid (((But.of_below BU.out).set (.inl rfl) _).set (.inl rfl) _)
      have YW : Hid (R2 ((u1.setCell ⟨gl, 0, none⟩ (.int .i64 (lo - f))).setCell ⟨gl, 1, none⟩ (.int .i64 (d))) q1 (q1 + 1) ⟨lo - f, d⟩ ⟨hi - f, d⟩) := Lib.hid ⟨((Below.heap_setCell _ _ _ _ (by show q1 ≠ gl; omega)).trans (Below.heap_setCell _ _ _ _ (by show q1 ≠ gl; omega))).trans YU.out.a, ((Below.heap_setCell _ _ _ _ (by show q1 + 1 ≠ gl; omega)).trans (Below.heap_setCell _ _ _ _ (by show q1 + 1 ≠ gl; omega))).trans YU.out.b⟩
      have hz2 : u1.heap.size ≤ (((u1.setCell ⟨gl, 0, none⟩ (.int .i64 (lo - f))).setCell ⟨gl, 1, none⟩ (.int .i64 (d)))).heap.size := by simp
      go_wp2_with fail
      clear a0 a1 c0 c1 l0 l1 h0 h1 fl fh fl1 fh1
      generalize ((u1.setCell ⟨gl, 0, none⟩ (.int .i64 (lo - f))).setCell ⟨gl, 1, none⟩ (.int .i64 (d))) = u2 at *
      rcases hhigh : Cl.rless ⟨hi - f, d⟩ s.high with _ | _
      · have HH := Lib.hid hhigh; clear hhigh
        refine (less_b ⟨hi - f, d⟩ s.high false _ SM2.out HS.out.high HH.out).mono ?_
        rintro e u3 ⟨rfl, hb1⟩
        have V3 := Lib.hid (VW.out.keep hb1 (by omega) (by omega) (by omega)); have Y3 := Lib.hid (YW.out.keep hb1 (by omega) (by omega)); have B3 := Lib.hid (BW.out.trans (But.of_below hb1)); clear hb1
        go_wp2
        refine bodyPost_end (results_none (by rfl) _ _ _) rfl ?_
        refine ⟨rfl, ?_, B3.out⟩
        rw [HBND.out ⟨lo - f, d⟩ s.high (by rw [HL.out]; rfl) (by rw [HH.out]; rfl)]; exact V3.out
      · have HH := Lib.hid hhigh; clear hhigh
        refine (less_b ⟨hi - f, d⟩ s.high true _ SM2.out HS.out.high HH.out).mono ?_
        rintro e u3 ⟨rfl, hb1⟩
        have V3 := Lib.hid (VW.out.keep hb1 (by omega) (by omega) (by omega)); have Y3 := Lib.hid (YW.out.keep hb1 (by omega) (by omega)); have B3 := Lib.hid (BW.out.trans (But.of_below hb1)); clear hb1
        obtain ⟨a0, a1⟩ := Y3.out.ca; obtain ⟨c0, c1⟩ := Y3.out.cb; obtain ⟨l0, l1⟩ := V3.out.low_c; obtain ⟨h0, h1⟩ := V3.out.high_c; obtain ⟨fl, fh, _⟩ := V3.out.free 0; obtain ⟨fl1, fh1, _⟩ := V3.out.free 1; simp only at a0 a1 c0 c1
        go_wp2
        refine bodyPost_end (results_none (by rfl) _ _ _) rfl ?_
        have VF := V3.out.set_high (Ne.symm n3) n1 ⟨hi - f, d⟩
        refine ⟨rfl, ?_, ((B3.out.set (.inr (.inl rfl)) _).set (.inr (.inl rfl)) _)⟩
        rw [HBND.out ⟨lo - f, d⟩ ⟨hi - f, d⟩ (by rw [HL.out]; rfl) (by rw [HH.out]; rfl)]; exact VF
end Go.Proofs.Ytdiknijbjmhacaa
