/- WALKS: clip: rounding, points in boxes, near lists, limits. -/
import Derived.Test.YtdiknijbjmhacaaC1
set_option linter.unusedSimpArgs false
set_option linter.unusedVariables false
namespace Go.Proofs.Ytdiknijbjmhacaa
open Go.RowKit

theorem quo_floor {a b : Int} (hb : 0 < b) (h : a.tmod b < 0) : a.tdiv b - 1 = a / b := by
  rw [Int.tdiv_eq_ediv]
  rw [Int.tmod_eq_emod] at h
  have h1 := Int.emod_nonneg a (Int.ne_of_gt hb)
  split at h
  · omega
  · rename_i hn
    rw [if_neg hn, Int.sign_eq_one_of_pos hb]; omega
theorem quo_floor' {a b : Int} (hb : 0 < b) (h : ¬ a.tmod b < 0) : a.tdiv b = a / b := by
  rw [Int.tdiv_eq_ediv]
  rw [Int.tmod_eq_emod] at h
  have h1 := Int.emod_lt_of_pos a hb
  split at h
  · rename_i hn; rw [if_pos hn]; omega
  · have : (b.natAbs : Int) = b := by omega
    omega

theorem quo_bd {a b : Int} (C : Int) (h : -C ≤ a ∧ a ≤ C) : -C ≤ a.tdiv b ∧ a.tdiv b ≤ C := by
  have h1 : (a.tdiv b).natAbs ≤ a.natAbs := by rw [Int.natAbs_tdiv]; exact Nat.div_le_self _ _
  omega
set_option maxHeartbeats 800000 in
theorem round_any (n d m : Int) (w : World) (hs : Cl.Sm ⟨n, d⟩) (hm : -4194304 ≤ m ∧ m ≤ 4194304) :
    Calls Try.prog 51 #[.agg #[.int .i64 n, .int .i64 d], .int .i64 m] w fun e w' => e = .returned (.int .i64 (Cl.rround ⟨n, d⟩ m)) ∧ Below w.heap.size w w' := by
  obtain ⟨hn1, hn2, hd1, hd2⟩ := hs
  simp only at hn1 hn2 hd1 hd2
  obtain ⟨h1, h2⟩ := mul_bd (a := 2 * n) (b := m) 8388608 4194304 (by omega) hm
  have HR : Hid (Cl.rround ⟨n, d⟩ m = (2 * n * m + d) / (2 * d)) := Lib.hid rfl
  have hb0 : 0 < 2 * d := by omega
  have hb1 : 2 * d ≠ 0 := by omega
  obtain ⟨hq1, hq2⟩ := quo_bd (a := 2 * n * m + d) (b := 2 * d) 100000000000000 (by omega)
  by_cases hneg : (2 * n * m + d).tmod (2 * d) < 0
  · have HE := Lib.hid (quo_floor hb0 hneg)
    go_enter Try.func51, Try.ntmps51
    go_wp2_with fail
    go_quiet (fail)
    go_wp2
    go_ret
    exact ⟨ret_int (by rw [HR.out, ← HE.out]), below_drewN ((Below.refl _ _).alloc (Nat.le_refl _) _) _⟩
  · have HE := Lib.hid (quo_floor' hb0 hneg)
    go_enter Try.func51, Try.ntmps51
    go_wp2_with fail
    go_quiet (fail)
    go_wp2
    go_ret
    exact ⟨ret_int (by rw [HR.out, ← HE.out]), below_drewN ((Below.refl _ _).alloc (Nat.le_refl _) _) _⟩

theorem in_pt (x y x0 y0 x1 y1 : Int) (w : World) :
    Calls Try.prog 30 #[.agg #[.int .i64 x, .int .i64 y], .agg #[.int .i64 x0, .int .i64 y0, .int .i64 x1, .int .i64 y1]] w fun e w' => e = .returned (.bool (Cl.inB (x, y) ⟨x0, y0, x1, y1⟩)) ∧ Below w.heap.size w w' := by
  have fin : Below w.heap.size w ((w.alloc (.cells #[.int .i64 x, .int .i64 y] 24)).alloc (.cells #[.int .i64 x0, .int .i64 y0, .int .i64 x1, .int .i64 y1] 26)) := ((Below.refl _ _).alloc (Nat.le_refl _) _).alloc (by simp) _
  have HF := Lib.hid fin; clear fin
  by_cases a : x0 ≤ x
  · by_cases b : x ≤ x1
    · by_cases c : y0 ≤ y
      · have HE : Hid (decide (y ≤ y1) = Cl.inB (x, y) ⟨x0, y0, x1, y1⟩) := Lib.hid (by simp [Cl.inB, a, b, c])
        go_enter Try.func30, Try.ntmps30
        go_wp2
        go_ret
        exact ⟨ret_bool HE.out, HF.out⟩
      · have HE : Hid (false = Cl.inB (x, y) ⟨x0, y0, x1, y1⟩) := Lib.hid (by simp [Cl.inB, a, b, c])
        go_enter Try.func30, Try.ntmps30
        go_wp2
        go_ret
        exact ⟨ret_bool HE.out, HF.out⟩
    · have HE : Hid (false = Cl.inB (x, y) ⟨x0, y0, x1, y1⟩) := Lib.hid (by simp [Cl.inB, a, b])
      go_enter Try.func30, Try.ntmps30
      go_wp2
      go_ret
      exact ⟨ret_bool HE.out, HF.out⟩
  · have HE : Hid (false = Cl.inB (x, y) ⟨x0, y0, x1, y1⟩) := Lib.hid (by simp [Cl.inB, a])
    go_enter Try.func30, Try.ntmps30
    go_wp2
    go_ret
    exact ⟨ret_bool HE.out, HF.out⟩

/-- points as cells; a slice that reads as points -/
def ptCells (p : Cl.Pt) : List Value := [.int .i64 p.1, .int .i64 p.2]
def Rp (w : World) (A : Option Addr) (l : List Cl.Pt) : Prop := Rd w A (l.flatMap ptCells)
theorem ptCells_len : ∀ l : List Cl.Pt, (l.flatMap ptCells).length = l.length * 2
  | [] => rfl
  | p :: l => by rw [List.flatMap_cons, List.length_append, ptCells_len l]; simp [ptCells]; omega
theorem ptCells_at : ∀ (l : List Cl.Pt) (k : Nat) (h : k < l.length), (l.flatMap ptCells)[k * 2]? = some (.int .i64 l[k].1) ∧ (l.flatMap ptCells)[k * 2 + 1]? = some (.int .i64 l[k].2)
  | p :: l, 0, _ => by simp [ptCells]
  | p :: l, k + 1, h => by
    have := ptCells_at l k (by simpa using h)
    rw [List.flatMap_cons, show (k + 1) * 2 = (ptCells p).length + k * 2 by simp [ptCells]; omega, show (ptCells p).length + k * 2 + 1 = (ptCells p).length + (k * 2 + 1) by omega,
      List.getElem?_append_right (by omega), List.getElem?_append_right (by omega)]
    simpa using this
theorem Rp.at_ {w : World} {A : Option Addr} {l : List Cl.Pt} (h : Rp w A l) {k : Nat} (hk : k < l.length) :
    ∃ b off, A = some ⟨b, off, none⟩ ∧ b < w.heap.size ∧ w.cell? ⟨b, off + k * 2, none⟩ = some (.int .i64 l[k].1) ∧ w.cell? ⟨b, off + k * 2 + 1, none⟩ = some (.int .i64 l[k].2) := by
  obtain ⟨b, off, e, hb, hc⟩ := h (by rw [ptCells_len]; omega)
  obtain ⟨h1, h2⟩ := ptCells_at l k hk
  exact ⟨b, off, e, hb, hc _ _ h1, hc _ _ h2⟩
theorem Rp.below {w w' : World} {A : Option Addr} {l : List Cl.Pt} (h : Rp w A l) (hb : Below w.heap.size w w') : Rp w' A l := Rd.below h hb
/-- numbers that an int holds -/
def Wf (l : List Cl.Pt) : Prop := ∀ p ∈ l, (-9223372036854775808 ≤ p.1 ∧ p.1 ≤ 9223372036854775807) ∧ (-9223372036854775808 ≤ p.2 ∧ p.2 ≤ 9223372036854775807)

theorem far_any (x y : Int) (w : World) (hx : -9223372036854775808 ≤ x ∧ x ≤ 9223372036854775807) (hy : -9223372036854775808 ≤ y ∧ y ≤ 9223372036854775807) :
    Calls Try.prog 46 #[.agg #[.int .i64 x, .int .i64 y]] w fun e w' => e = .returned (.bool (!Cl.nearB x y)) ∧ Below w.heap.size w w' := by
  have HX := Lib.hid hx; have HY := Lib.hid hy; clear hx hy
  go_enter Try.func46, Try.ntmps46
  go_wp2_with fail
  refine (near_any x y _ HX.out HY.out).mono ?_
  rintro e w1 ⟨rfl, hb⟩
  have HB := Lib.hid hb; clear hb
  go_wp2
  go_ret
  exact ⟨rfl, ((Below.refl _ _).alloc (Nat.le_refl _) _).trans (HB.out.mono (by simp))⟩

theorem findFar (l : List Cl.Pt) : (∀ j (h : j < l.length), Cl.nearB l[j].1 l[j].2 = true) → (l.any fun p => !Cl.nearB p.1 p.2) = false := by
  intro h
  rw [List.any_eq_false]
  intro p hp
  obtain ⟨j, hj, rfl⟩ := List.mem_iff_getElem.1 hp
  simp [h j hj]
theorem findFar' {l : List Cl.Pt} {k : Nat} (hk : k < l.length) (h : Cl.nearB l[k].1 l[k].2 = false) : (l.any fun p => !Cl.nearB p.1 p.2) = true := by
  rw [List.any_eq_true]; exact ⟨l[k], List.getElem_mem _, by simp [h]⟩
/-- an index comes back: below 0 exactly if nothing is far -/
def IdxPost (b : Bool) (e : Ending) : Prop := ∃ i : Int, e = .returned (.int .i64 i) ∧ decide (0 ≤ i) = b

set_option maxHeartbeats 800000 in
theorem idx_any (A : Option Addr) (n c : Nat) (l : List Cl.Pt) (w : World) (hn : n = l.length) (hl : n ≤ 9223372036854775807) (h : Rp w A l) (hw : Wf l) :
    Calls Try.prog 54 #[.slice A n c, .func (.func 46) #[] #[]] w fun e w' => IdxPost (l.any fun p => !Cl.nearB p.1 p.2) e ∧ Below w.heap.size w w' := by
  have H := Lib.hid h; have HW := Lib.hid hw; have HN := Lib.hid hn; clear h hw hn
  go_enter Try.func54, Try.ntmps54
  go_wp2_with fail
  go_loopw [8] (fun i wr => ∃ k : Nat, k ≤ n ∧ i = .int .i64 k ∧ Hid (∀ j (_ : j < k) (h : j < l.length), Cl.nearB l[j].1 l[j].2 = true) ∧ Hid (Below w.heap.size w wr)) (fun i _ => n - (intOf i).toNat)
  case atStart => exact ⟨0, Nat.zero_le _, rfl, Lib.hid (by intro j h; omega), Below.refl _ _⟩
  case round =>
    obtain ⟨k, hk, rfl, hno, hbel⟩ := hrel
    by_cases hlt : k < n
    · have hll : k < l.length := by have := HN.out; omega
      obtain ⟨b, off, rfl, hb, hc1, hc2⟩ := (H.out.below hbel.out).at_ hll
      have hwf := HW.out _ (List.getElem_mem hll)
      obtain ⟨x, hx⟩ : ∃ x, x = l[k].1 := ⟨_, rfl⟩
      obtain ⟨y, hy⟩ : ∃ y, y = l[k].2 := ⟨_, rfl⟩
      rw [← hx] at hc1 hwf
      rw [← hy] at hc2 hwf
      have HWF := Lib.hid hwf; have HX := Lib.hid hx; have HY := Lib.hid hy; clear hwf hx hy
      rcases hn : Cl.nearB x y with _ | _
      · have HF : Hid ((l.any fun p => !Cl.nearB p.1 p.2) = true) := Lib.hid (findFar' hll (by rw [← HX.out, ← HY.out]; exact hn))
        have HE := Lib.hid hn; clear hn
        go_wp2_with fail
        refine (far_any x y _ HWF.out.1 HWF.out.2).mono ?_
        rw [HE.out]
        rintro e w1 ⟨rfl, hb1⟩
        have HB1 := Lib.hid hb1; clear hb1
        go_wp2
        go_ret
        exact ⟨⟨(k : Int), rfl, by rw [HF.out]; simp⟩, hbel.out.trans (HB1.out.mono hbel.out.size)⟩
      · have HE := Lib.hid hn; clear hn
        go_wp2_with fail
        refine (far_any x y _ HWF.out.1 HWF.out.2).mono ?_
        rw [HE.out]
        rintro e w1 ⟨rfl, hb1⟩
        have HB1 := Lib.hid hb1; clear hb1
        go_wp2
        exact ⟨⟨k + 1, hlt, by go_num, Lib.hid (fun j hj h => by
          rcases Nat.lt_succ_iff_lt_or_eq.1 hj with h1 | rfl
          · exact hno.out j h1 h
          · rw [← HX.out, ← HY.out]; exact HE.out), Lib.hid (hbel.out.trans (HB1.out.mono hbel.out.size))⟩, by simp [intOf]; omega⟩
    · have HF : Hid ((l.any fun p => !Cl.nearB p.1 p.2) = false) := Lib.hid (findFar l fun j h => hno.out j (by have := HN.out; omega) h)
      go_wp2
      go_ret
      exact ⟨⟨-1, rfl, by rw [HF.out]; rfl⟩, hbel.out⟩
theorem IdxPost.cases_ {b : Bool} {e : Ending} (h : IdxPost b e) : ∃ i : Int, e = .returned (.int .i64 i) ∧ decide (0 ≤ i) = b := h

theorem contains_any (A : Option Addr) (n c : Nat) (l : List Cl.Pt) (w : World) (hn : n = l.length) (hl : n ≤ 9223372036854775807) (h : Rp w A l) (hw : Wf l) :
    Calls Try.prog 45 #[.slice A n c, .func (.func 46) #[] #[]] w fun e w' => e = .returned (.bool (l.any fun p => !Cl.nearB p.1 p.2)) ∧ Below w.heap.size w w' := by
  have H := Lib.hid h; have HW := Lib.hid hw; have HN := Lib.hid hn; clear h hw hn
  go_enter Try.func45, Try.ntmps45
  go_wp2_with fail
  refine (idx_any A n c l _ HN.out hl H.out HW.out).mono ?_
  intro e w1 hh
  obtain ⟨hi, hb⟩ := hh
  obtain ⟨i, rfl, hd⟩ := hi.cases_
  have HB := Lib.hid hb; have HD := Lib.hid hd; clear hb hd hi
  go_wp2
  go_ret
  exact ⟨ret_bool HD.out, HB.out⟩

/-- a box's four cells in a block of their own -/
def BoxAt (w : World) (g : Nat) (b : Cl.Bx) : Prop := w.heap[g]? = some (.cells #[.int .i64 b.x0, .int .i64 b.y0, .int .i64 b.x1, .int .i64 b.y1] 26 (0, 0))
theorem BoxAt.below {w w' : World} {g : Nat} {b : Cl.Bx} (h : BoxAt w g b) {B : Nat} (hb : Below B w w') (hg : g < B) : BoxAt w' g b := (hb.block g hg).trans h
theorem BoxAt.c {w : World} {g : Nat} {b : Cl.Bx} (h : BoxAt w g b) : w.cell? ⟨g, 0, none⟩ = some (.int .i64 b.x0) ∧ w.cell? ⟨g, 1, none⟩ = some (.int .i64 b.y0) ∧ w.cell? ⟨g, 2, none⟩ = some (.int .i64 b.x1) ∧ w.cell? ⟨g, 3, none⟩ = some (.int .i64 b.y1) :=
  ⟨cell_of_row w g 0 _ _ _ h, cell_of_row w g 1 _ _ _ h, cell_of_row w g 2 _ _ _ h, cell_of_row w g 3 _ _ _ h⟩

theorem proper_any (A : Option Addr) (n c : Nat) (l : List Cl.Pt) (x0 y0 x1 y1 : Int) (w : World) (hn : n = l.length) (hl : n ≤ 9223372036854775807) (h : Rp w A l) (hw : Wf l) (hb : Wf [(x0, y0), (x1, y1)]) :
    Calls Try.prog 26 #[.slice A n c, .agg #[.int .i64 x0, .int .i64 y0, .int .i64 x1, .int .i64 y1]] w fun e w' => e = .returned (.bool (Cl.properB l ⟨x0, y0, x1, y1⟩)) ∧ Below w.heap.size w w' := by
  have H := Lib.hid h; have HW := Lib.hid hw; have HN := Lib.hid hn
  have B0 : Hid (Below w.heap.size w (w.alloc (.cells #[.int .i64 x0, .int .i64 y0, .int .i64 x1, .int .i64 y1] 26))) := (Below.refl _ _).alloc (Nat.le_refl _) _
  have X0 : Hid (BoxAt (w.alloc (.cells #[.int .i64 x0, .int .i64 y0, .int .i64 x1, .int .i64 y1] 26)) w.heap.size ⟨x0, y0, x1, y1⟩) := Lib.hid (heap_alloc_new w _)
  have HB1 := Lib.hid (hb (x0, y0) (by simp)); have HB2 := Lib.hid (hb (x1, y1) (by simp)); clear h hw hn hb
  rcases hp : Cl.nearB x0 y0 with _ | _
  · have HE : Hid (false = Cl.properB l ⟨x0, y0, x1, y1⟩) := Lib.hid (by simp [Cl.properB, Cl.boxB, hp])
    have HP := Lib.hid hp; clear hp
    go_enter Try.func26, Try.ntmps26
    go_wp2_with fail
    refine (near_any x0 y0 _ HB1.out.1 HB1.out.2).mono ?_
    rw [HP.out]
    rintro e w1 ⟨rfl, hb1⟩
    have b1 := Lib.hid hb1; clear hb1
    go_wp2
    go_ret
    exact ⟨ret_bool HE.out, B0.out.trans (b1.out.mono B0.out.size)⟩
  · have HP := Lib.hid hp; clear hp
    go_enter Try.func26, Try.ntmps26
    go_wp2_with fail
    refine (near_any x0 y0 _ HB1.out.1 HB1.out.2).mono ?_
    rw [HP.out]
    rintro e w1 ⟨rfl, hb1⟩
    have X1 := Lib.hid (X0.out.below hb1 (by simp))
    have b1 := Lib.hid (B0.out.trans (hb1.mono B0.out.size)); clear hb1
    have X1c := X1.out.c
    obtain ⟨k0, k1, k2, k3⟩ := X1c
    simp only at k0 k1 k2 k3
    have hlt1 : w.heap.size < w1.heap.size := lt_of_block X1.out
    go_wp2_with fail
    refine (near_any x1 y1 _ HB2.out.1 HB2.out.2).mono ?_
    clear k0 k1 k2 k3
    rcases hp2 : Cl.nearB x1 y1 with _ | _
    · have HE : Hid (false = Cl.properB l ⟨x0, y0, x1, y1⟩) := Lib.hid (by simp [Cl.properB, Cl.boxB, hp2])
      have HP2 := Lib.hid hp2; clear hp2
      rintro e w2 ⟨rfl, hb1⟩
      have b2 := Lib.hid (b1.out.trans (hb1.mono b1.out.size)); clear hb1
      go_wp2
      go_ret
      exact ⟨ret_bool HE.out, b2.out⟩
    · have HP2 := Lib.hid hp2; clear hp2
      rintro e w2 ⟨rfl, hb1⟩
      have X2 := Lib.hid (X1.out.below hb1 hlt1)
      have b2 := Lib.hid (b1.out.trans (hb1.mono b1.out.size)); clear hb1
      have X2c := X2.out.c
      obtain ⟨k0, k1, k2, k3⟩ := X2c
      simp only at k0 k1 k2 k3
      by_cases hx : x0 ≤ x1
      · have hx' : decide (x0 ≤ x1) = true := by simpa using hx
        by_cases hy : y0 ≤ y1
        · have hy' : decide (y0 ≤ y1) = true := by simpa using hy
          have HE : Hid ((!(l.any fun p => !Cl.nearB p.1 p.2)) = Cl.properB l ⟨x0, y0, x1, y1⟩) := Lib.hid (by
            simp [Cl.properB, Cl.boxB, HP.out, HP2.out, hx, hy, List.all_eq_not_any_not])
          clear hx hy
          go_wp2_with fail
          refine (contains_any A n c l _ HN.out hl (H.out.below b2.out) HW.out).mono ?_
          rintro e w3 ⟨rfl, hb3⟩
          have b3 := Lib.hid (b2.out.trans (hb3.mono b2.out.size)); clear hb3
          go_wp2
          go_ret
          exact ⟨ret_bool HE.out, b3.out⟩
        · have hy' : decide (y0 ≤ y1) = false := by simpa using hy
          have HE : Hid (false = Cl.properB l ⟨x0, y0, x1, y1⟩) := Lib.hid (by simp [Cl.properB, Cl.boxB, hy])
          clear hx hy
          go_wp2
          go_ret
          exact ⟨ret_bool HE.out, b2.out⟩
      · have hx' : decide (x0 ≤ x1) = false := by simpa using hx
        have HE : Hid (false = Cl.properB l ⟨x0, y0, x1, y1⟩) := Lib.hid (by simp [Cl.properB, Cl.boxB, hx])
        clear hx
        go_wp2
        go_ret
        exact ⟨ret_bool HE.out, b2.out⟩
end Go.Proofs.Ytdiknijbjmhacaa
