/- PLAIN LAWS OF CLIPPING: the pieces of a segment in a box. -/
import Derived.Test.YtdiknijbjmhacaaK0
set_option linter.unusedSimpArgs false
set_option linter.unusedVariables false
namespace Go.Proofs.Ytdiknijbjmhacaa.Cl

def rle (a b : Rt) : Prop := a.n * b.d ≤ b.n * a.d
theorem rless_f {a b : Rt} : rless b a = false ↔ rle a b := by unfold rless rle; simp
theorem rless_t {a b : Rt} : rless a b = true ↔ ¬ rle b a := by unfold rless rle; simp
theorem rle_refl (a : Rt) : rle a a := Int.le_refl _
theorem rle_total {a b : Rt} (h : ¬ rle b a) : rle a b := by unfold rle at *; omega
theorem rle_trans {a b c : Rt} (ha : 0 < a.d) (hb : 0 < b.d) (hc : 0 < c.d) (h1 : rle a b) (h2 : rle b c) : rle a c := by
  unfold rle at *
  have e1 : a.n * b.d * c.d ≤ b.n * a.d * c.d := Int.mul_le_mul_of_nonneg_right h1 (Int.le_of_lt hc)
  have e2 : b.n * c.d * a.d ≤ c.n * b.d * a.d := Int.mul_le_mul_of_nonneg_right h2 (Int.le_of_lt ha)
  have e3 : a.n * c.d * b.d ≤ c.n * a.d * b.d := by
    have f1 : a.n * c.d * b.d = a.n * b.d * c.d := by rw [Int.mul_assoc, Int.mul_comm c.d, ← Int.mul_assoc]
    have f2 : b.n * a.d * c.d = b.n * c.d * a.d := by rw [Int.mul_assoc, Int.mul_comm a.d, ← Int.mul_assoc]
    have f3 : c.n * b.d * a.d = c.n * a.d * b.d := by rw [Int.mul_assoc, Int.mul_comm b.d, ← Int.mul_assoc]
    omega
  exact Int.le_of_mul_le_mul_right e3 hb

structure Pos (s : St) : Prop where
  low : 0 < s.low.d
  high : 0 < s.high.d
theorem lo_pos {f d lo hi : Int} (h : d ≠ 0) : 0 < (loR f d lo hi).d ∧ 0 < (hiR f d lo hi).d := by
  unfold loR hiR; split <;> simp only <;> omega

/-- a coordinate is between the limits at a parameter -/
def inR (f d lo hi : Int) (r : Rt) : Prop := lo * r.d ≤ f * r.d + r.n * d ∧ f * r.d + r.n * d ≤ hi * r.d
theorem inR_of {f d lo hi : Int} {r : Rt} (h0 : d ≠ 0) (h1 : rle (loR f d lo hi) r) (h2 : rle r (hiR f d lo hi)) : inR f d lo hi r := by
  unfold rle loR hiR at *
  unfold inR
  by_cases hd : d < 0
  · rw [if_pos hd] at h1 h2
    simp only [Int.sub_mul, Int.mul_neg] at h1 h2
    omega
  · rw [if_neg hd] at h1 h2
    simp only [Int.sub_mul] at h1 h2
    omega
theorem inR_zero {f lo hi : Int} {r : Rt} (hr : 0 < r.d) (h1 : lo ≤ f) (h2 : f ≤ hi) : inR f 0 lo hi r := by
  unfold inR
  have a := Int.mul_le_mul_of_nonneg_right h1 (Int.le_of_lt hr)
  have b := Int.mul_le_mul_of_nonneg_right h2 (Int.le_of_lt hr)
  omega
theorem rround_in {f d lo hi : Int} {r : Rt} (hr : 0 < r.d) (h : inR f d lo hi r) : lo ≤ f + rround r d ∧ f + rround r d ≤ hi := by
  obtain ⟨h1, h2⟩ := h
  unfold rround
  have e : 2 * r.n * d = 2 * (r.n * d) := by rw [Int.mul_assoc]
  constructor
  · have : lo - f ≤ (2 * r.n * d + r.d) / (2 * r.d) := by
      refine Int.le_ediv_of_mul_le (by omega) ?_
      have : (lo - f) * (2 * r.d) = 2 * ((lo - f) * r.d) := by rw [← Int.mul_assoc, Int.mul_comm (lo - f) 2, Int.mul_assoc]
      rw [this, e, Int.sub_mul]
      omega
    omega
  · have : (2 * r.n * d + r.d) / (2 * r.d) < hi - f + 1 := by
      refine Int.ediv_lt_of_lt_mul (by omega) ?_
      have : (hi - f + 1) * (2 * r.d) = 2 * ((hi - f) * r.d) + 2 * r.d := by rw [Int.add_mul, Int.one_mul, ← Int.mul_assoc, Int.mul_comm (hi - f) 2, Int.mul_assoc]
      rw [this, e, Int.sub_mul]
      omega
    omega

/-- what one coordinate does to the limits -/
theorem bnd_spec {f d lo hi : Int} {s : St} (hs : Pos s) : Pos (bnd f d lo hi s) ∧ rle s.low (bnd f d lo hi s).low ∧ rle (bnd f d lo hi s).high s.high ∧ ((bnd f d lo hi s).ok = true → s.ok = true) ∧
    ∀ r : Rt, 0 < r.d → (bnd f d lo hi s).ok = true → rle (bnd f d lo hi s).low r → rle r (bnd f d lo hi s).high → inR f d lo hi r := by
  unfold bnd
  by_cases h0 : d = 0
  · subst h0
    rw [if_pos rfl]
    refine ⟨⟨hs.low, hs.high⟩, rle_refl _, rle_refl _, fun h => ?_, fun r hr h _ _ => ?_⟩
    · simp at h; exact h.1.1
    · simp at h; exact inR_zero hr h.1.2 h.2
  · rw [if_neg h0]
    obtain ⟨p1, p2⟩ := lo_pos (f := f) (lo := lo) (hi := hi) h0
    have key : ∀ (L H : Rt), L = (if rless s.low (loR f d lo hi) then loR f d lo hi else s.low) → H = (if rless (hiR f d lo hi) s.high then hiR f d lo hi else s.high) →
        0 < L.d ∧ 0 < H.d ∧ rle s.low L ∧ rle (loR f d lo hi) L ∧ rle H s.high ∧ rle H (hiR f d lo hi) := by
      intro L H hL hH
      have a : 0 < L.d ∧ rle s.low L ∧ rle (loR f d lo hi) L := by
        cases h : rless s.low (loR f d lo hi) with
        | true => rw [h, if_pos rfl] at hL; subst hL; exact ⟨p1, rle_total (rless_t.1 h), rle_refl _⟩
        | false => rw [h, if_neg (by simp)] at hL; subst hL; exact ⟨hs.low, rle_refl _, rless_f.1 h⟩
      have b : 0 < H.d ∧ rle H s.high ∧ rle H (hiR f d lo hi) := by
        cases h : rless (hiR f d lo hi) s.high with
        | true => rw [h, if_pos rfl] at hH; subst hH; exact ⟨p2, rle_total (rless_t.1 h), rle_refl _⟩
        | false => rw [h, if_neg (by simp)] at hH; subst hH; exact ⟨hs.high, rle_refl _, rless_f.1 h⟩
      exact ⟨a.1, b.1, a.2.1, a.2.2, b.2.1, b.2.2⟩
    obtain ⟨k1, k2, k3, k4, k5, k6⟩ := key _ _ rfl rfl
    refine ⟨⟨k1, k2⟩, k3, k5, fun h => h, fun r hr _ h1 h2 => inR_of h0 (rle_trans p1 k1 hr k4 h1) (rle_trans hr k2 p2 h2 k6)⟩

theorem pos0 : Pos st0 := ⟨by decide, by decide⟩
/-- where there is a piece, both of its parameters are between 0 and 1 and within both limits -/
theorem piece_spec {p q : Pt} {b : Bx} (h : pcOk p q b = true) : ∀ r : Rt, (r = (st2 p q b).low ∨ r = (st2 p q b).high) → 0 < r.d ∧ rle ⟨0, 1⟩ r ∧ rle r ⟨1, 1⟩ ∧ inR p.1 (q.1 - p.1) b.x0 b.x1 r ∧ inR p.2 (q.2 - p.2) b.y0 b.y1 r := by
  unfold pcOk at h
  rw [Bool.and_eq_true] at h
  obtain ⟨hok, hle⟩ := h
  have hle' : rle (st2 p q b).low (st2 p q b).high := rless_f.1 (by simpa using hle)
  obtain ⟨P1, l1, h1, o1, i1⟩ := bnd_spec (f := p.1) (d := q.1 - p.1) (lo := b.x0) (hi := b.x1) pos0
  obtain ⟨P2, l2, h2, o2, i2⟩ := bnd_spec (f := p.2) (d := q.2 - p.2) (lo := b.y0) (hi := b.y1) P1
  change Pos (st1 p q b) at P1
  change rle st0.low (st1 p q b).low at l1
  change rle (st1 p q b).high st0.high at h1
  change ∀ r : Rt, 0 < r.d → (st1 p q b).ok = true → rle (st1 p q b).low r → rle r (st1 p q b).high → inR p.1 (q.1 - p.1) b.x0 b.x1 r at i1
  change Pos (st2 p q b) at P2
  change rle (st1 p q b).low (st2 p q b).low at l2
  change rle (st2 p q b).high (st1 p q b).high at h2
  change (st2 p q b).ok = true → (st1 p q b).ok = true at o2
  change ∀ r : Rt, 0 < r.d → (st2 p q b).ok = true → rle (st2 p q b).low r → rle r (st2 p q b).high → inR p.2 (q.2 - p.2) b.y0 b.y1 r at i2
  intro r hr
  have g : 0 < r.d ∧ rle (st2 p q b).low r ∧ rle r (st2 p q b).high := by
    rcases hr with rfl | rfl
    · exact ⟨P2.low, rle_refl _, hle'⟩
    · exact ⟨P2.high, hle', rle_refl _⟩
  obtain ⟨g1, g2, g3⟩ := g
  have g4 := rle_trans P1.low P2.low g1 l2 g2
  have g5 := rle_trans g1 P2.high P1.high g3 h2
  refine ⟨g1, rle_trans (by decide) P1.low g1 l1 g4, rle_trans g1 P1.high (by decide) g5 h1, i1 r g1 (o2 hok) g4 g5, i2 r g1 hok g2 g3⟩

/-- (a) the ends of a piece are in the box -/
theorem piece_in {p q : Pt} {b : Bx} (h : pcOk p q b = true) : inB (pcA p q b) b = true ∧ inB (pcB p q b) b = true := by
  have key : ∀ r : Rt, (r = (st2 p q b).low ∨ r = (st2 p q b).high) → inB (atP p q r) b = true := by
    intro r hr
    obtain ⟨h1, _, _, h2, h3⟩ := piece_spec h r hr
    have a := rround_in h1 h2
    have c := rround_in h1 h3
    unfold inB atP
    simp only [Bool.and_eq_true, decide_eq_true_eq]
    exact ⟨⟨⟨a.1, a.2⟩, c.1⟩, c.2⟩
  exact ⟨key _ (.inl rfl), key _ (.inr rfl)⟩

theorem rround_one (n : Int) : rround ⟨1, 1⟩ n = n := by unfold rround; simp only; omega
theorem rround_zero (n : Int) : rround ⟨0, 1⟩ n = 0 := by unfold rround; simp
theorem bnd_q {f d lo hi : Int} {s : St} (hl : lo ≤ f + d) (hh : f + d ≤ hi) (hs : s.high = ⟨1, 1⟩) (h1 : rle s.low ⟨1, 1⟩) : (bnd f d lo hi s).high = ⟨1, 1⟩ ∧ rle (bnd f d lo hi s).low ⟨1, 1⟩ ∧ (bnd f d lo hi s).ok = s.ok := by
  unfold bnd
  by_cases h0 : d = 0
  · subst h0
    rw [if_pos rfl]
    refine ⟨hs, h1, ?_⟩
    have a : lo ≤ f := by omega
    have c : f ≤ hi := by omega
    simp [a, c]
  · rw [if_neg h0]
    have a : rless (hiR f d lo hi) ⟨1, 1⟩ = false := by
      unfold rless hiR; split <;> simp <;> omega
    have c : rle (loR f d lo hi) ⟨1, 1⟩ := by
      unfold rle loR; split <;> simp <;> omega
    simp only
    rw [hs, a]
    refine ⟨by simp, ?_, trivial⟩
    split
    · exact c
    · exact h1
theorem bnd_p {f d lo hi : Int} {s : St} (hl : lo ≤ f) (hh : f ≤ hi) (hs : s.low = ⟨0, 1⟩) (h1 : rle ⟨0, 1⟩ s.high) : (bnd f d lo hi s).low = ⟨0, 1⟩ ∧ rle ⟨0, 1⟩ (bnd f d lo hi s).high ∧ (bnd f d lo hi s).ok = s.ok := by
  unfold bnd
  by_cases h0 : d = 0
  · subst h0
    rw [if_pos rfl]
    exact ⟨hs, h1, by simp [hl, hh]⟩
  · rw [if_neg h0]
    have a : rless ⟨0, 1⟩ (loR f d lo hi) = false := by
      unfold rless loR; split <;> simp <;> omega
    have c : rle ⟨0, 1⟩ (hiR f d lo hi) := by
      unfold rle hiR; split <;> simp <;> omega
    simp only
    rw [hs, a]
    refine ⟨by simp, ?_, trivial⟩
    split
    · exact c
    · exact h1
theorem inB_iff {p : Pt} {b : Bx} : inB p b = true ↔ b.x0 ≤ p.1 ∧ p.1 ≤ b.x1 ∧ b.y0 ≤ p.2 ∧ p.2 ≤ b.y1 := by unfold inB; simp; omega
/-- (b) a segment that ends in the box has a piece that ends where it does -/
theorem piece_q {p q : Pt} {b : Bx} (h : inB q b = true) : pcOk p q b = true ∧ pcB p q b = q := by
  rw [inB_iff] at h
  obtain ⟨a1, a2, a3⟩ := bnd_q (f := p.1) (d := q.1 - p.1) (lo := b.x0) (hi := b.x1) (s := st0) (by omega) (by omega) rfl (by unfold rle st0; decide)
  obtain ⟨c1, c2, c3⟩ := bnd_q (f := p.2) (d := q.2 - p.2) (lo := b.y0) (hi := b.y1) (s := st1 p q b) (by omega) (by omega) a1 a2
  refine ⟨?_, ?_⟩
  · unfold pcOk
    rw [Bool.and_eq_true]
    refine ⟨(c3.trans a3).trans rfl, ?_⟩
    have : rless (st2 p q b).high (st2 p q b).low = false := rless_f.2 (by unfold st2; rw [c1]; exact c2)
    rw [this]; rfl
  · unfold pcB atP st2
    rw [c1, rround_one, rround_one]
    apply Prod.ext <;> simp only <;> omega
theorem piece_p {p q : Pt} {b : Bx} (h : inB p b = true) : pcOk p q b = true ∧ pcA p q b = p := by
  rw [inB_iff] at h
  obtain ⟨a1, a2, a3⟩ := bnd_p (f := p.1) (d := q.1 - p.1) (lo := b.x0) (hi := b.x1) (s := st0) (by omega) (by omega) rfl (by unfold rle st0; decide)
  obtain ⟨c1, c2, c3⟩ := bnd_p (f := p.2) (d := q.2 - p.2) (lo := b.y0) (hi := b.y1) (s := st1 p q b) (by omega) (by omega) a1 a2
  refine ⟨?_, ?_⟩
  · unfold pcOk
    rw [Bool.and_eq_true]
    refine ⟨(c3.trans a3).trans rfl, ?_⟩
    have : rless (st2 p q b).high (st2 p q b).low = false := rless_f.2 (by unfold st2; rw [c1]; exact c2)
    rw [this]; rfl
  · unfold pcA atP st2
    rw [c1, rround_zero, rround_zero]
    apply Prod.ext <;> simp only <;> omega

/-- (c) reversed -/
def flip (r : Rt) : Rt := ⟨r.d - r.n, r.d⟩
def flipS (s : St) : St := ⟨flip s.high, flip s.low, s.ok⟩
theorem flip_less (a b : Rt) : rless (flip a) (flip b) = rless b a := by
  unfold rless flip
  rw [decide_eq_decide]
  simp only [Int.sub_mul]
  rw [Int.mul_comm a.d b.d]
  omega
theorem flip_bnd (f d lo hi : Int) (s : St) : bnd (f + d) (-d) lo hi (flipS s) = flipS (bnd f d lo hi s) := by
  by_cases h0 : d = 0
  · subst h0
    unfold bnd
    rw [if_pos (by omega), if_pos rfl]
    simp [flipS]
  · have e1 : loR (f + d) (-d) lo hi = flip (hiR f d lo hi) := by
      unfold loR hiR flip
      by_cases h : d < 0
      · rw [if_neg (show ¬ -d < 0 by omega), if_pos h]; simp only [Rt.mk.injEq, and_true]; omega
      · rw [if_pos (show -d < 0 by omega), if_neg h]; simp only [Rt.mk.injEq, and_true]; omega
    have e2 : hiR (f + d) (-d) lo hi = flip (loR f d lo hi) := by
      unfold loR hiR flip
      by_cases h : d < 0
      · rw [if_neg (show ¬ -d < 0 by omega), if_pos h]; simp only [Rt.mk.injEq, and_true]; omega
      · rw [if_pos (show -d < 0 by omega), if_neg h]; simp only [Rt.mk.injEq, and_true]; omega
    unfold bnd
    rw [if_neg (by omega), if_neg h0, e1, e2]
    simp only [flipS, flip_less]
    congr 1
    · split <;> rfl
    · split <;> rfl
theorem flip_round {r : Rt} (hr : 0 < r.d) (n : Int) : rround (flip r) (-n) = rround r n - n := by
  unfold rround flip
  simp only
  have : 2 * (r.d - r.n) * -n + r.d = (2 * r.n * n + r.d) + (-n) * (2 * r.d) := by
    have e1 : 2 * (r.d - r.n) * -n = 2 * r.n * n - 2 * r.d * n := by rw [Int.mul_neg, Int.mul_sub, Int.sub_mul]; omega
    have e2 : (-n) * (2 * r.d) = - (2 * r.d * n) := by rw [Int.neg_mul, Int.mul_comm]
    omega
  rw [this, Int.add_mul_ediv_right _ _ (by omega)]
  omega
theorem flip_st (p q : Pt) (b : Bx) : st2 q p b = flipS (st2 p q b) := by
  have e : flipS st0 = st0 := rfl
  unfold st2 st1
  have h1 := flip_bnd p.1 (q.1 - p.1) b.x0 b.x1 st0
  rw [e, show p.1 + (q.1 - p.1) = q.1 by omega, show -(q.1 - p.1) = p.1 - q.1 by omega] at h1
  have h2 := flip_bnd p.2 (q.2 - p.2) b.y0 b.y1 (bnd p.1 (q.1 - p.1) b.x0 b.x1 st0)
  rw [show p.2 + (q.2 - p.2) = q.2 by omega, show -(q.2 - p.2) = p.2 - q.2 by omega, ← h1] at h2
  exact h2
theorem st2_pos (p q : Pt) (b : Bx) : Pos (st2 p q b) := (bnd_spec (bnd_spec pos0).1).1
theorem piece_flip (p q : Pt) (b : Bx) : pcOk q p b = pcOk p q b ∧ pcA q p b = pcB p q b ∧ pcB q p b = pcA p q b := by
  have hp := st2_pos p q b
  have key : ∀ r : Rt, 0 < r.d → atP q p (flip r) = atP p q r := by
    intro r hr
    have a := flip_round hr (q.1 - p.1)
    have c := flip_round hr (q.2 - p.2)
    rw [show -(q.1 - p.1) = p.1 - q.1 by omega] at a
    rw [show -(q.2 - p.2) = p.2 - q.2 by omega] at c
    unfold atP
    rw [a, c]
    apply Prod.ext <;> simp only <;> omega
  unfold pcOk pcA pcB
  rw [flip_st p q b]
  refine ⟨?_, key _ hp.high, key _ hp.low⟩
  simp only [flipS, flip_less]

/-- (d) moved -/
def mvP (m : Pt) (p : Pt) : Pt := (p.1 + m.1, p.2 + m.2)
def mvB (m : Pt) (b : Bx) : Bx := ⟨b.x0 + m.1, b.y0 + m.2, b.x1 + m.1, b.y1 + m.2⟩
theorem bnd_mv (f d lo hi m : Int) (s : St) : bnd (f + m) d (lo + m) (hi + m) s = bnd f d lo hi s := by
  have e1 : loR (f + m) d (lo + m) (hi + m) = loR f d lo hi := by unfold loR; by_cases h : d < 0 <;> simp only [h, if_true, if_false, Rt.mk.injEq, and_true] <;> omega
  have e2 : hiR (f + m) d (lo + m) (hi + m) = hiR f d lo hi := by unfold hiR; by_cases h : d < 0 <;> simp only [h, if_true, if_false, Rt.mk.injEq, and_true] <;> omega
  unfold bnd
  rw [e1, e2]
  have e3 : decide (lo + m ≤ f + m) = decide (lo ≤ f) := by rw [decide_eq_decide]; omega
  have e4 : decide (f + m ≤ hi + m) = decide (f ≤ hi) := by rw [decide_eq_decide]; omega
  rw [e3, e4]
theorem st_mv (p q m : Pt) (b : Bx) : st2 (mvP m p) (mvP m q) (mvB m b) = st2 p q b := by
  unfold st2 st1 mvP mvB
  simp only
  rw [show q.1 + m.1 - (p.1 + m.1) = q.1 - p.1 by omega, show q.2 + m.2 - (p.2 + m.2) = q.2 - p.2 by omega, bnd_mv, bnd_mv]
theorem piece_mv (p q m : Pt) (b : Bx) : pcOk (mvP m p) (mvP m q) (mvB m b) = pcOk p q b ∧ pcA (mvP m p) (mvP m q) (mvB m b) = mvP m (pcA p q b) ∧ pcB (mvP m p) (mvP m q) (mvB m b) = mvP m (pcB p q b) := by
  have key : ∀ r : Rt, atP (mvP m p) (mvP m q) r = mvP m (atP p q r) := by
    intro r
    unfold atP mvP
    simp only
    rw [show q.1 + m.1 - (p.1 + m.1) = q.1 - p.1 by omega, show q.2 + m.2 - (p.2 + m.2) = q.2 - p.2 by omega]
    apply Prod.ext <;> simp only <;> omega
  unfold pcOk pcA pcB
  rw [st_mv]
  exact ⟨rfl, key _, key _⟩
theorem inB_mv (p m : Pt) (b : Bx) : inB (mvP m p) (mvB m b) = inB p b := by
  rw [Bool.eq_iff_iff, inB_iff, inB_iff]; unfold mvP mvB; simp only; omega

/-- (e) beyond one side: no piece -/
theorem beyond {f d lo : Int} {r : Rt} (hr : 0 < r.d) (h0 : rle ⟨0, 1⟩ r) (h1 : rle r ⟨1, 1⟩) (a : f < lo) (c : f + d < lo) : ¬ lo * r.d ≤ f * r.d + r.n * d := by
  unfold rle at h0 h1
  simp only [Int.zero_mul, Int.mul_one, Int.one_mul] at h0 h1
  intro h
  -- f * r.d + r.n * d = f * (r.d - r.n) + (f + d) * r.n
  have e : f * r.d + r.n * d = f * (r.d - r.n) + (f + d) * r.n := by rw [Int.mul_sub, Int.add_mul, Int.mul_comm d r.n]; omega
  have b1 : f * (r.d - r.n) ≤ (lo - 1) * (r.d - r.n) := Int.mul_le_mul_of_nonneg_right (by omega) (by omega)
  have b2 : (f + d) * r.n ≤ (lo - 1) * r.n := Int.mul_le_mul_of_nonneg_right (by omega) (by omega)
  have b3 : (lo - 1) * (r.d - r.n) + (lo - 1) * r.n = lo * r.d - r.d := by rw [← Int.mul_add, Int.sub_add_cancel, Int.sub_mul, Int.one_mul]
  omega
end Go.Proofs.Ytdiknijbjmhacaa.Cl
