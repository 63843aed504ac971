/- WORDS AND WALKS: tags and objects in memory; slices.Equal at strings and at tags; tag.Valid. -/
import Derived.Test.YtlejeelmlclnkaaGreatDoorBB
import Derived.Laws.StructEq
import Derived.Lib.MinMax
set_option linter.unusedSimpArgs false
set_option linter.unusedVariables false
namespace Go.Proofs.YtlejeelmlclnkaaGreatDoor
open Go.RowKit

theorem flat_get {α : Type} (f : α → List Value) (m : Nat) (hf : ∀ a, (f a).length = m) : ∀ {l : List α} {k : Nat} (h : k < l.length) {i : Nat} {u : Value}, (f l[k])[i]? = some u → (l.flatMap f)[k * m + i]? = some u
  | [], _, h, _, _, _ => by simp at h
  | a :: l, 0, _, i, u, hu => by
    rw [List.flatMap_cons, Nat.zero_mul, Nat.zero_add]
    have hi := (List.getElem?_eq_some_iff.1 hu).1
    have hi : i < (f a).length := hi
    rw [List.getElem?_append_left hi]; exact hu
  | a :: l, k + 1, h, i, u, hu => by
    have ih := flat_get f m hf (l := l) (k := k) (by simpa using h) (i := i) (u := u) (by simpa using hu)
    rw [List.flatMap_cons, List.getElem?_append_right (by rw [hf, Nat.succ_mul]; omega), hf]
    rw [show (k + 1) * m + i - m = k * m + i by rw [Nat.succ_mul]; omega]
    exact ih
theorem flat_len {α : Type} (f : α → List Value) (m : Nat) (hf : ∀ a, (f a).length = m) (l : List α) : (l.flatMap f).length = l.length * m := by
  induction l with
  | nil => simp
  | cons a l ih => rw [List.flatMap_cons, List.length_append, ih, hf, List.length_cons, Nat.succ_mul]; omega
def strsC (l : List Tx) : List Value := l.map fun s => .string (mkB s)
theorem strs_at {w : World} {A : Option Addr} {l : List Tx} (h : Rd w A (strsC l)) {k : Nat} (hk : k < l.length) :
    ∃ b off, A = some ⟨b, off, none⟩ ∧ b < w.heap.size ∧ w.cell? ⟨b, off + k, none⟩ = some (.string (mkB l[k])) := h.map_at (f := fun s => Value.string (mkB s)) hk
def tagC (t : Tx × Tx) : List Value := [.string (mkB t.1), .string (mkB t.2)]
def tagsC (l : List (Tx × Tx)) : List Value := l.flatMap tagC
theorem tagsC_len (l : List (Tx × Tx)) : (tagsC l).length = l.length * 2 := flat_len tagC 2 (fun _ => rfl) l
theorem tags_at {w : World} {A : Option Addr} {l : List (Tx × Tx)} (h : Rd w A (tagsC l)) {k : Nat} (hk : k < l.length) :
    ∃ b off, A = some ⟨b, off, none⟩ ∧ b < w.heap.size ∧ w.cell? ⟨b, off + k * 2, none⟩ = some (.string (mkB l[k].1)) ∧ w.cell? ⟨b, off + k * 2 + 1, none⟩ = some (.string (mkB l[k].2)) := by
  obtain ⟨b, off, e, hb, hc⟩ := h (by rw [tagsC_len]; omega)
  have g : ∀ f u, (tagC l[k])[f]? = some u → w.cell? ⟨b, off + (k * 2 + f), none⟩ = some u := fun f u hu => hc (k * 2 + f) u (flat_get tagC 2 (fun _ => rfl) hk hu)
  refine ⟨b, off, e, hb, g 0 _ rfl, ?_⟩
  have := g 1 _ rfl; rwa [← Nat.add_assoc] at this
theorem belowDD {B : Nat} {w w' : World} (h : Below B w w') : Below B w w'.drew := ⟨h.os, h.tape, h.output, h.size, h.block⟩
theorem belowNN {B : Nat} {w w' : World} (h : Below B w w') (n : Nat) : Below B w (w'.drewN n) := ⟨h.os, h.tape, h.output, h.size, h.block⟩
theorem list_ne_at {α : Type} {l m : List α} {k : Nat} (h : k < l.length) (h' : k < m.length) (e : l[k] ≠ m[k]) : l ≠ m := by rintro rfl; exact e rfl
set_option maxHeartbeats 800000 in
theorem eqs_any (A B : Option Addr) (c d : Nat) (l m : List Tx) (n1 n2 : Nat) (w : World) (hn1 : n1 = l.length) (hn2 : n2 = m.length) (hl : n1 ≤ 1000000) (hm : n2 ≤ 1000000) (h : Rd w A (strsC l)) (h2 : Rd w B (strsC m)) :
    Calls Tryz.prog 84 #[.slice A n1 c, .slice B n2 d] w fun e w' => e = .returned (.bool (decide (l = m))) ∧ Below w.heap.size w w' := by
  have H := Lib.hid h; clear h
  have H2 := Lib.hid h2; clear h2
  have HN := Lib.hid hn1
  have HM := Lib.hid hn2
  clear hn1 hn2
  obtain ⟨R, hR⟩ : ∃ R, decide (l = m) = R := ⟨_, rfl⟩
  have HR := Lib.hid hR
  rw [hR]
  clear hR
  have HB : Hid (Below w.heap.size w w) := Lib.hid (Below.refl _ _)
  by_cases hlen : n1 = n2
  · have hq : ((n1 : Int) != (n2 : Int)) = false := by rw [hlen]; simp
    have HL := Lib.hid hlen
    clear hlen
    go_enter Tryz.func84, Tryz.ntmps84
    go_wp2_with fail
    go_loopw [13] (fun i wr => ∃ k : Nat, k ≤ n1 ∧ i = .int .i64 (k : Int) ∧ Hid (∀ j (_ : j < k) (h : j < l.length) (h' : j < m.length), l[j] = m[j]) ∧ Hid (Below w.heap.size w wr)) (fun i _ => n1 - (intOf i).toNat)
    case atStart => exact ⟨0, Nat.zero_le _, rfl, Lib.hid (fun j h => absurd h (Nat.not_lt_zero _)), HB⟩
    case round =>
      clear HB
      obtain ⟨k, hk, rfl, AL, BL⟩ := hrel
      by_cases hlt : k < n1
      · have hkl : k < l.length := by rw [← HN.out]; exact hlt
        have hkm : k < m.length := by rw [← HM.out, ← HL.out]; exact hlt
        have d1 : (k : Int) < (n1 : Int) := by omega
        have d3 : (k : Int) < (n2 : Int) := by have := HL.out; omega
        have d2 : (0 : Int) ≤ (k : Int) := by omega
        obtain ⟨b, off, rfl, hb, c0⟩ := strs_at (H.out.below BL.out) hkl
        obtain ⟨b2, off2, rfl, hb2, c1⟩ := strs_at (H2.out.below BL.out) hkm
        have ALn : Hid (l[k] = m[k] → ∀ j (_ : j < k + 1) (h : j < l.length) (h' : j < m.length), l[j] = m[j]) := Lib.hid (fun hc j hj h h' => by
          rcases Nat.lt_succ_iff_lt_or_eq.1 hj with h1 | h1
          · exact AL.out j h1 h h'
          · subst h1; exact hc)
        have NE : Hid (l[k] ≠ m[k] → R = false) := Lib.hid (fun hc => by rw [← HR.out]; exact decide_eq_false (list_ne_at hkl hkm hc))
        have t1 := mkB_tl l[k]
        have t2 := mkB_tl m[k]
        generalize l[k] = x at *
        generalize m[k] = y at *
        by_cases he : x = y
        · have e1 : (x == y) = true := by rw [he]; simp
          have e2 : (x != y) = false := by rw [he]; simp
          have A2 := Lib.hid (ALn.out he)
          clear ALn NE he
          go_wp2_with fail
          go_quiet (fail)
          go_wp2_with fail
          exact ⟨⟨k + 1, by omega, by go_num, A2, Lib.hid (belowNN BL.out _)⟩, by simp [intOf]; omega⟩
        · have e1 : (x == y) = false := by simpa using he
          have e2 : (x != y) = true := by simpa using he
          have A2 := Lib.hid (NE.out he)
          clear ALn NE he
          go_wp2_with fail
          go_quiet (fail)
          go_wp2_with fail
          go_ret
          exact ⟨by rw [A2.out]; rfl, belowNN BL.out _⟩
      · have d1 : ¬ (k : Int) < (n1 : Int) := by omega
        have RT : Hid (R = true) := Lib.hid (by
          rw [← HR.out]
          exact decide_eq_true (List.ext_getElem (by rw [← HN.out, ← HM.out, HL.out]) (fun j h h' => AL.out j (by have := HN.out; omega) h h')))
        clear AL
        go_wp2_with fail
        go_ret
        exact ⟨by rw [RT.out]; rfl, BL.out⟩
  · have hq : ((n1 : Int) != (n2 : Int)) = true := by simp; omega
    have RF : Hid (R = false) := Lib.hid (by
      rw [← HR.out]
      exact decide_eq_false (fun e => hlen (by rw [HN.out, HM.out, e])))
    clear hlen
    go_enter Tryz.func84, Tryz.ntmps84
    go_wp2_with fail
    go_ret
    exact ⟨by rw [RF.out]; rfl, HB.out⟩
set_option maxHeartbeats 800000 in
theorem eqt_any (A B : Option Addr) (c d : Nat) (l m : List (Tx × Tx)) (n1 n2 : Nat) (w : World) (hn1 : n1 = l.length) (hn2 : n2 = m.length) (hl : n1 ≤ 1000000) (hm : n2 ≤ 1000000) (h : Rd w A (tagsC l)) (h2 : Rd w B (tagsC m)) :
    Calls Tryz.prog 85 #[.slice A n1 c, .slice B n2 d] w fun e w' => e = .returned (.bool (decide (l = m))) ∧ Below w.heap.size w w' := by
  have H := Lib.hid h; clear h
  have H2 := Lib.hid h2; clear h2
  have HN := Lib.hid hn1
  have HM := Lib.hid hn2
  clear hn1 hn2
  obtain ⟨R, hR⟩ : ∃ R, decide (l = m) = R := ⟨_, rfl⟩
  have HR := Lib.hid hR
  rw [hR]
  clear hR
  have HB : Hid (Below w.heap.size w w) := Lib.hid (Below.refl _ _)
  by_cases hlen : n1 = n2
  · have hq : ((n1 : Int) != (n2 : Int)) = false := by rw [hlen]; simp
    have HL := Lib.hid hlen
    clear hlen
    go_enter Tryz.func85, Tryz.ntmps85
    go_wp2_with fail
    go_loopw [13] (fun i wr => ∃ k : Nat, k ≤ n1 ∧ i = .int .i64 (k : Int) ∧ Hid (∀ j (_ : j < k) (h : j < l.length) (h' : j < m.length), l[j] = m[j]) ∧ Hid (Below w.heap.size w wr)) (fun i _ => n1 - (intOf i).toNat)
    case atStart => exact ⟨0, Nat.zero_le _, rfl, Lib.hid (fun j h => absurd h (Nat.not_lt_zero _)), HB⟩
    case round =>
      clear HB
      obtain ⟨k, hk, rfl, AL, BL⟩ := hrel
      by_cases hlt : k < n1
      · have hkl : k < l.length := by rw [← HN.out]; exact hlt
        have hkm : k < m.length := by rw [← HM.out, ← HL.out]; exact hlt
        have d1 : (k : Int) < (n1 : Int) := by omega
        have d3 : (k : Int) < (n2 : Int) := by have := HL.out; omega
        have d2 : (0 : Int) ≤ (k : Int) := by omega
        obtain ⟨b, off, rfl, hb, c0, c1⟩ := tags_at (H.out.below BL.out) hkl
        obtain ⟨b2, off2, rfl, hb2, c2, c3⟩ := tags_at (H2.out.below BL.out) hkm
        have ALn : Hid (l[k] = m[k] → ∀ j (_ : j < k + 1) (h : j < l.length) (h' : j < m.length), l[j] = m[j]) := Lib.hid (fun hc j hj h h' => by
          rcases Nat.lt_succ_iff_lt_or_eq.1 hj with h1 | h1
          · exact AL.out j h1 h h'
          · subst h1; exact hc)
        have NE : Hid (l[k] ≠ m[k] → R = false) := Lib.hid (fun hc => by rw [← HR.out]; exact decide_eq_false (list_ne_at hkl hkm hc))
        have t1 := mkB_tl l[k].1
        have t2 := mkB_tl m[k].1
        have t3 := mkB_tl l[k].2
        have t4 := mkB_tl m[k].2
        have EE : Hid (l[k] = m[k] ↔ l[k].1 = m[k].1 ∧ l[k].2 = m[k].2) := Lib.hid Prod.ext_iff
        generalize l[k] = x at *
        generalize m[k] = y at *
        obtain ⟨x1, x2⟩ := x
        obtain ⟨y1, y2⟩ := y
        dsimp only at t1 t2 t3 t4 c0 c1 c2 c3 EE
        by_cases h1 : x1 = y1
        · have e1 : (x1 == y1) = true := by rw [h1]; simp
          by_cases h2 : x2 = y2
          · have e2 : (x2 == y2) = true := by rw [h2]; simp
            have A2 := Lib.hid (ALn.out (EE.out.2 ⟨h1, h2⟩))
            clear ALn NE EE h1 h2
            go_wp2_with fail
            go_quiet (fail)
            go_wp2_with fail
            exact ⟨⟨k + 1, by omega, by go_num, A2, Lib.hid (belowNN BL.out _)⟩, by simp [intOf]; omega⟩
          · have e2 : (x2 == y2) = false := by simpa using h2
            have A2 := Lib.hid (NE.out (fun e => h2 (EE.out.1 e).2))
            clear ALn NE EE h1 h2
            go_wp2_with fail
            go_quiet (fail)
            go_wp2_with fail
            go_ret
            exact ⟨by rw [A2.out]; rfl, belowNN BL.out _⟩
        · have e1 : (x1 == y1) = false := by simpa using h1
          have A2 := Lib.hid (NE.out (fun e => h1 (EE.out.1 e).1))
          clear ALn NE EE h1
          go_wp2_with fail
          go_quiet (fail)
          go_wp2_with fail
          go_ret
          exact ⟨by rw [A2.out]; rfl, belowNN BL.out _⟩
      · have d1 : ¬ (k : Int) < (n1 : Int) := by omega
        have RT : Hid (R = true) := Lib.hid (by
          rw [← HR.out]
          exact decide_eq_true (List.ext_getElem (by rw [← HN.out, ← HM.out, HL.out]) (fun j h h' => AL.out j (by have := HN.out; omega) h h')))
        clear AL
        go_wp2_with fail
        go_ret
        exact ⟨by rw [RT.out]; rfl, BL.out⟩
  · have hq : ((n1 : Int) != (n2 : Int)) = true := by simp; omega
    have RF : Hid (R = false) := Lib.hid (by
      rw [← HR.out]
      exact decide_eq_false (fun e => hlen (by rw [HN.out, HM.out, e])))
    clear hlen
    go_enter Tryz.func85, Tryz.ntmps85
    go_wp2_with fail
    go_ret
    exact ⟨by rw [RF.out]; rfl, HB.out⟩
end Go.Proofs.YtlejeelmlclnkaaGreatDoor
