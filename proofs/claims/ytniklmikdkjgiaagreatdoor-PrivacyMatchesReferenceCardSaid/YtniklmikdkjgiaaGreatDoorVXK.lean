import Derived.Test.YtniklmikdkjgiaaGreatDoorVXI
import Derived.Test.YtniklmikdkjgiaaGreatDoorCXK
set_option linter.all false
set_option maxHeartbeats 16000000
set_option maxRecDepth 100000
namespace Go.Proofs.YtniklmikdkjgiaaGreatDoor
open Go.RowKit
theorem rstrs_any (A B : Option Addr) (c d : Nat) (l m : List Tx) (n1 n2 : Nat) (w : World) (hn1 : n1 = l.length) (hn2 : n2 = m.length) (hl : n1 ≤ 1000000) (hm : n2 ≤ 1000000) (h : Rd w A (strsC l)) (h2 : Rd w B (strsC m)) :
  Calls Tryz.prog 102 #[.slice A n1 c, .slice B n2 d] w fun e w' => e = .returned (.bool (decide (l = m))) ∧ Below w.heap.size w w' := by
 have H := Lib.hid h; clear h
 have H2 := Lib.hid h2; clear h2
 have HN := Lib.hid hn1
 have HM := Lib.hid hn2
 clear hn1 hn2
 obtain ⟨R, hR⟩ : ∃ R, decide (l = m) = R := ⟨_, rfl⟩
 have HR := Lib.hid hR
 rw [hR]
 clear hR
 have HB : Hid (Below w.heap.size w w) := Lib.hid (Below.refl _ _)
 by_cases hlen : n1 = n2
 ·have hq : ((n1 : Int) != (n2 : Int)) = false := by rw [hlen]; simp
  have HL := Lib.hid hlen
  clear hlen
  go_enter Tryz.func102, Tryz.ntmps102
  go_wp2_with fail
  go_loopw [5] (fun i wr => ∃ k : Nat, k ≤ n1 ∧ i = .int .i64 (k : Int) ∧ Hid (∀ j (_ : j < k) (h : j < l.length) (h' : j < m.length), l[j] = m[j]) ∧ Hid (Below w.heap.size w wr)) (fun i _ => n1 - (intOf i).toNat)
  case atStart => exact ⟨0, Nat.zero_le _, rfl, Lib.hid (fun j h => absurd h (Nat.not_lt_zero _)), HB⟩
  case round =>
   clear HB
   obtain ⟨k, hk, rfl, AL, BL⟩ := hrel
   by_cases hlt : k < n1
   ·have hkl : k < l.length := by rw [← HN.out]; exact hlt
    have hkm : k < m.length := by rw [← HM.out, ← HL.out]; exact hlt
    have d1 : (k : Int) < (n1 : Int) := by omega
    have d3 : (k : Int) < (n2 : Int) := by have := HL.out; omega
    have d2 : (0 : Int) ≤ (k : Int) := by omega
    obtain ⟨b, off, rfl, hb, c0⟩ := strs_at (H.out.below BL.out) hkl
    obtain ⟨b2, off2, rfl, hb2, c1⟩ := strs_at (H2.out.below BL.out) hkm
    have ALn : Hid (l[k] = m[k] → ∀ j (_ : j < k + 1) (h : j < l.length) (h' : j < m.length), l[j] = m[j]) := Lib.hid (fun hc j hj h h' => by
     rcases Nat.lt_succ_iff_lt_or_eq.1 hj with h1 | h1
     ·exact AL.out j h1 h h'
     ·subst h1; exact hc)
    have NE : Hid (l[k] ≠ m[k] → R = false) := Lib.hid (fun hc => by rw [← HR.out]; exact decide_eq_false (list_ne_at hkl hkm hc))
    have t1 := mkB_tl l[k]
    have t2 := mkB_tl m[k]
    generalize l[k] = x at *
    generalize m[k] = y at *
    by_cases he : x = y
    ·have e1 : (x == y) = true := by rw [he]; simp
     have e2 : (x != y) = false := by rw [he]; simp
     have A2 := Lib.hid (ALn.out he)
     clear ALn NE he
     go_wp2_with fail
     go_quiet (fail)
     go_wp2_with fail
     exact ⟨⟨k + 1, by omega, by go_num, A2, Lib.hid (belowNN BL.out _)⟩, by simp [intOf]; omega⟩
    ·have e1 : (x == y) = false := by simpa using he
     have e2 : (x != y) = true := by simpa using he
     have A2 := Lib.hid (NE.out he)
     clear ALn NE he
     go_wp2_with fail
     go_quiet (fail)
     go_wp2_with fail
     go_ret
     exact ⟨by rw [A2.out]; rfl, belowNN BL.out _⟩
   ·have d1 : ¬ (k : Int) < (n1 : Int) := by omega
    have RT : Hid (R = true) := Lib.hid (by
     rw [← HR.out]
     exact decide_eq_true (List.ext_getElem (by rw [← HN.out, ← HM.out, HL.out]) (fun j h h' => AL.out j (by have := HN.out; omega) h h')))
    clear AL
    go_wp2_with fail
    go_ret
    exact ⟨by rw [RT.out]; rfl, BL.out⟩
 ·have hq : ((n1 : Int) != (n2 : Int)) = true := by simp; omega
  have RF : Hid (R = false) := Lib.hid (by
   rw [← HR.out]
   exact decide_eq_false (fun e => hlen (by rw [HN.out, HM.out, e])))
  clear hlen
  go_enter Tryz.func102, Tryz.ntmps102
  go_wp2_with fail
  go_ret
  exact ⟨by rw [RF.out]; rfl, HB.out⟩
theorem eqp_any (A B : Option Addr) (c d : Nat) (l m : List Pt) (n1 n2 : Nat) (w : World) (hn1 : n1 = l.length) (hn2 : n2 = m.length) (hl : n1 ≤ 1000000) (hm : n2 ≤ 1000000) (h : Rd w A (ptsL l)) (h2 : Rd w B (ptsL m)) :
  Calls Tryz.prog 101 #[.slice A n1 c, .slice B n2 d] w fun e w' => e = .returned (.bool (decide (l = m))) ∧ Below w.heap.size w w' := by
 have H := Lib.hid h; clear h
 have H2 := Lib.hid h2; clear h2
 have HN := Lib.hid hn1
 have HM := Lib.hid hn2
 clear hn1 hn2
 obtain ⟨R, hR⟩ : ∃ R, decide (l = m) = R := ⟨_, rfl⟩
 have HR := Lib.hid hR
 rw [hR]
 clear hR
 have HB : Hid (Below w.heap.size w w) := Lib.hid (Below.refl _ _)
 by_cases hlen : n1 = n2
 ·have hq : ((n1 : Int) != (n2 : Int)) = false := by rw [hlen]; simp
  have HL := Lib.hid hlen
  clear hlen
  go_enter Tryz.func101, Tryz.ntmps101
  go_wp2_with fail
  go_loopw [13] (fun i wr => ∃ k : Nat, k ≤ n1 ∧ i = .int .i64 (k : Int) ∧ Hid (∀ j (_ : j < k) (h : j < l.length) (h' : j < m.length), l[j] = m[j]) ∧ Hid (Below w.heap.size w wr)) (fun i _ => n1 - (intOf i).toNat)
  case atStart => exact ⟨0, Nat.zero_le _, rfl, Lib.hid (fun j h => absurd h (Nat.not_lt_zero _)), HB⟩
  case round =>
   clear HB
   obtain ⟨k, hk, rfl, AL, BL⟩ := hrel
   by_cases hlt : k < n1
   ·have hkl : k < l.length := by rw [← HN.out]; exact hlt
    have hkm : k < m.length := by rw [← HM.out, ← HL.out]; exact hlt
    have d1 : (k : Int) < (n1 : Int) := by omega
    have d3 : (k : Int) < (n2 : Int) := by have := HL.out; omega
    have d2 : (0 : Int) ≤ (k : Int) := by omega
    obtain ⟨b, off, rfl, hb, c0, c1⟩ := pts_at (H.out.below BL.out) hkl
    obtain ⟨b2, off2, rfl, hb2, c2, c3⟩ := pts_at (H2.out.below BL.out) hkm
    have ALn : Hid (l[k] = m[k] → ∀ j (_ : j < k + 1) (h : j < l.length) (h' : j < m.length), l[j] = m[j]) := Lib.hid (fun hc j hj h h' => by
     rcases Nat.lt_succ_iff_lt_or_eq.1 hj with h1 | h1
     ·exact AL.out j h1 h h'
     ·subst h1; exact hc)
    have NE : Hid (l[k] ≠ m[k] → R = false) := Lib.hid (fun hc => by rw [← HR.out]; exact decide_eq_false (list_ne_at hkl hkm hc))
    have EE : Hid (l[k] = m[k] ↔ l[k].1 = m[k].1 ∧ l[k].2 = m[k].2) := Lib.hid Prod.ext_iff
    generalize l[k] = x at *
    generalize m[k] = y at *
    obtain ⟨x1, x2⟩ := x
    obtain ⟨y1, y2⟩ := y
    dsimp only at c0 c1 c2 c3 EE
    by_cases h1 : x1 = y1
    ·have e1 : (x1 == y1) = true := by rw [h1]; simp
     by_cases h2 : x2 = y2
     ·have e2 : (x2 == y2) = true := by rw [h2]; simp
      have A2 := Lib.hid (ALn.out (EE.out.2 ⟨h1, h2⟩))
      clear ALn NE EE h1 h2
      go_wp2_with fail
      go_quiet (fail)
      go_wp2_with fail
      exact ⟨⟨k + 1, by omega, by go_num, A2, Lib.hid (belowNN BL.out _)⟩, by simp [intOf]; omega⟩
     ·have e2 : (x2 == y2) = false := by simpa using h2
      have A2 := Lib.hid (NE.out (fun e => h2 (EE.out.1 e).2))
      clear ALn NE EE h1 h2
      go_wp2_with fail
      go_quiet (fail)
      go_wp2_with fail
      go_ret
      exact ⟨by rw [A2.out]; rfl, belowNN BL.out _⟩
    ·have e1 : (x1 == y1) = false := by simpa using h1
     have A2 := Lib.hid (NE.out (fun e => h1 (EE.out.1 e).1))
     clear ALn NE EE h1
     go_wp2_with fail
     go_quiet (fail)
     go_wp2_with fail
     go_ret
     exact ⟨by rw [A2.out]; rfl, belowNN BL.out _⟩
   ·have d1 : ¬ (k : Int) < (n1 : Int) := by omega
    have RT : Hid (R = true) := Lib.hid (by
     rw [← HR.out]
     exact decide_eq_true (List.ext_getElem (by rw [← HN.out, ← HM.out, HL.out]) (fun j h h' => AL.out j (by have := HN.out; omega) h h')))
    clear AL
    go_wp2_with fail
    go_ret
    exact ⟨by rw [RT.out]; rfl, BL.out⟩
 ·have hq : ((n1 : Int) != (n2 : Int)) = true := by simp; omega
  have RF : Hid (R = false) := Lib.hid (by
   rw [← HR.out]
   exact decide_eq_false (fun e => hlen (by rw [HN.out, HM.out, e])))
  clear hlen
  go_enter Tryz.func101, Tryz.ntmps101
  go_wp2_with fail
  go_ret
  exact ⟨by rw [RF.out]; rfl, HB.out⟩
end Go.Proofs.YtniklmikdkjgiaaGreatDoor
namespace Go.Proofs.YtniklmikdkjgiaaGreatDoor
open Go.RowKit
theorem lsame_any (A B : Option Addr) (c d : Nat) (l m : List Int) (n1 n2 : Nat) (w : World) (hn1 : n1 = l.length) (hn2 : n2 = m.length) (hl : n1 ≤ 1000000) (hm : n2 ≤ 1000000) (h : Rd w A (intsL l)) (h2 : Rd w B (intsL m)) :
  Calls Tryz.prog 17 #[.slice A n1 c, .slice B n2 d] w fun e w' => e = .returned (.bool (decide (l = m))) ∧ Below w.heap.size w w' := by
 have H := Lib.hid h; clear h
 have H2 := Lib.hid h2; clear h2
 have HN := Lib.hid hn1
 have HM := Lib.hid hn2
 clear hn1 hn2
 obtain ⟨R, hR⟩ : ∃ R, decide (l = m) = R := ⟨_, rfl⟩
 have HR := Lib.hid hR
 rw [hR]
 clear hR
 have HB : Hid (Below w.heap.size w w) := Lib.hid (Below.refl _ _)
 by_cases hlen : n1 = n2
 ·have hq : ((n1 : Int) != (n2 : Int)) = false := by rw [hlen]; simp
  have HL := Lib.hid hlen
  clear hlen
  go_enter Tryz.func17, Tryz.ntmps17
  go_wp2_with fail
  go_loopw [5] (fun i wr => ∃ k : Nat, k ≤ n1 ∧ i = .int .i64 (k : Int) ∧ Hid (∀ j (_ : j < k) (h : j < l.length) (h' : j < m.length), l[j] = m[j]) ∧ Hid (Below w.heap.size w wr)) (fun i _ => n1 - (intOf i).toNat)
  case atStart => exact ⟨0, Nat.zero_le _, rfl, Lib.hid (fun j h => absurd h (Nat.not_lt_zero _)), HB⟩
  case round =>
   clear HB
   obtain ⟨k, hk, rfl, AL, BL⟩ := hrel
   by_cases hlt : k < n1
   ·have hkl : k < l.length := by rw [← HN.out]; exact hlt
    have hkm : k < m.length := by rw [← HM.out, ← HL.out]; exact hlt
    have d1 : (k : Int) < (n1 : Int) := by omega
    have d3 : (k : Int) < (n2 : Int) := by have := HL.out; omega
    have d2 : (0 : Int) ≤ (k : Int) := by omega
    obtain ⟨b, off, rfl, hb, c0⟩ := ints_at (H.out.below BL.out) hkl
    obtain ⟨b2, off2, rfl, hb2, c1⟩ := ints_at (H2.out.below BL.out) hkm
    have ALn : Hid (l[k] = m[k] → ∀ j (_ : j < k + 1) (h : j < l.length) (h' : j < m.length), l[j] = m[j]) := Lib.hid (fun hc j hj h h' => by
     rcases Nat.lt_succ_iff_lt_or_eq.1 hj with h1 | h1
     ·exact AL.out j h1 h h'
     ·subst h1; exact hc)
    have NE : Hid (l[k] ≠ m[k] → R = false) := Lib.hid (fun hc => by rw [← HR.out]; exact decide_eq_false (list_ne_at hkl hkm hc))
    generalize l[k] = x at *
    generalize m[k] = y at *
    by_cases he : x = y
    ·have e1 : (x == y) = true := by rw [he]; simp
     have e2 : (x != y) = false := by rw [he]; simp
     have A2 := Lib.hid (ALn.out he)
     clear ALn NE he
     go_wp2_with fail
     go_quiet (fail)
     go_wp2_with fail
     exact ⟨⟨k + 1, by omega, by go_num, A2, Lib.hid (belowNN BL.out _)⟩, by simp [intOf]; omega⟩
    ·have e1 : (x == y) = false := by simpa using he
     have e2 : (x != y) = true := by simpa using he
     have A2 := Lib.hid (NE.out he)
     clear ALn NE he
     go_wp2_with fail
     go_quiet (fail)
     go_wp2_with fail
     go_ret
     exact ⟨by rw [A2.out]; rfl, belowNN BL.out _⟩
   ·have d1 : ¬ (k : Int) < (n1 : Int) := by omega
    have RT : Hid (R = true) := Lib.hid (by
     rw [← HR.out]
     exact decide_eq_true (List.ext_getElem (by rw [← HN.out, ← HM.out, HL.out]) (fun j h h' => AL.out j (by have := HN.out; omega) h h')))
    clear AL
    go_wp2_with fail
    go_ret
    exact ⟨by rw [RT.out]; rfl, BL.out⟩
 ·have hq : ((n1 : Int) != (n2 : Int)) = true := by simp; omega
  have RF : Hid (R = false) := Lib.hid (by
   rw [← HR.out]
   exact decide_eq_false (fun e => hlen (by rw [HN.out, HM.out, e])))
  clear hlen
  go_enter Tryz.func17, Tryz.ntmps17
  go_wp2_with fail
  go_ret
  exact ⟨by rw [RF.out]; rfl, HB.out⟩
end Go.Proofs.YtniklmikdkjgiaaGreatDoor
namespace Go.Proofs.YtniklmikdkjgiaaGreatDoor
open Go.RowKit
theorem rseal_any (s t : SlV) (w : World) (h : SlvIs w s) (k : SlvIs w t) (hs : SeSz s.c) (ht : SeSz t.c) :
  Calls Tryz.prog 61 #[.agg (slL s).toArray, .agg (slL t).toArray] w fun e w' => e = .returned (.bool (sameS s.c t.c)) ∧ Below w.heap.size w w' := by
 obtain ⟨⟨A1, c1, v1, r1⟩, ⟨A2, c2, v2, r2⟩⟩ := h
 obtain ⟨⟨A3, c3, v3, r3⟩, ⟨A4, c4, v4, r4⟩⟩ := k
 have SO : Hid (sameS s.c t.c = (decide (s.index = t.index) && (decide (s.sig = t.sig) && decide (s.path = t.path)))) := Lib.hid (Bool.and_assoc _ _ _)
 obtain ⟨W, hW⟩ : ∃ W, W = (w.alloc (.cells (slL s).toArray 51)).alloc (.cells (slL t).toArray 51) := ⟨_, rfl⟩
 have BW : Hid (Below w.heap.size w W) := Lib.hid (by rw [hW]; exact ((Below.refl _ _).alloc (Nat.le_refl _) _).alloc (by simp) _)
 have HX : Hid (W.heap[w.heap.size]? = some (.cells (slL s).toArray 51 (0, 0))) := Lib.hid (by rw [hW]; exact (alloc_old _ _ (by simp)).trans (heap_alloc_new w _))
 have HY : Hid (W.heap[w.heap.size + 1]? = some (.cells (slL t).toArray 51 (0, 0))) := Lib.hid (by rw [hW]; exact alloc_new' _ _ _ (by simp))
 have HZ : W.heap.size = w.heap.size + 2 := by rw [hW]; simp
 have BA : Hid (∀ u, OldB W u → Below w.heap.size w u) := Lib.hid (fun u hu => BW.out.trans (Below.mono hu BW.out.size))
 have XA := fun u (hu : OldB W u) => (hu.block w.heap.size (by omega)).trans HX.out
 have XB := fun u (hu : OldB W u) => (hu.block (w.heap.size + 1) (by omega)).trans HY.out
 have SW : OldB W W := Below.refl _ _
 have a0 : ∀ u, OldB W u → u.cell? ⟨w.heap.size, 0, none⟩ = some (.int .i64 s.index) := fun u hu => load_block (XA u hu) (by rfl)
 have a1 : ∀ u, OldB W u → u.cell? ⟨w.heap.size, 1, none⟩ = some (.slice A1 s.sig.length c1) := fun u hu => by rw [← v1]; exact load_block (XA u hu) (by rfl)
 have a2 : ∀ u, OldB W u → u.cell? ⟨w.heap.size, 2, none⟩ = some (.slice A2 s.path.length c2) := fun u hu => by rw [← v2]; exact load_block (XA u hu) (by rfl)
 have b0 : ∀ u, OldB W u → u.cell? ⟨w.heap.size + 1, 0, none⟩ = some (.int .i64 t.index) := fun u hu => load_block (XB u hu) (by rfl)
 have b1 : ∀ u, OldB W u → u.cell? ⟨w.heap.size + 1, 1, none⟩ = some (.slice A3 t.sig.length c3) := fun u hu => by rw [← v3]; exact load_block (XB u hu) (by rfl)
 have b2 : ∀ u, OldB W u → u.cell? ⟨w.heap.size + 1, 2, none⟩ = some (.slice A4 t.path.length c4) := fun u hu => by rw [← v4]; exact load_block (XB u hu) (by rfl)
 have E1 : Hid (∀ u, OldB W u → Calls Tryz.prog 102 #[.slice A1 s.sig.length c1, .slice A3 t.sig.length c3] u fun e w' => e = .returned (.bool (decide (s.sig = t.sig))) ∧ Below u.heap.size u w') := Lib.hid (fun u hu => rstrs_any A1 A3 c1 c3 s.sig t.sig _ _ u rfl rfl hs.sig ht.sig (r1.below (BA.out u hu)) (r3.below (BA.out u hu)))
 have E2 : Hid (∀ u, OldB W u → Calls Tryz.prog 102 #[.slice A2 s.path.length c2, .slice A4 t.path.length c4] u fun e w' => e = .returned (.bool (decide (s.path = t.path))) ∧ Below u.heap.size u w') := Lib.hid (fun u hu => rstrs_any A2 A4 c2 c4 s.path t.path _ _ u rfl rfl hs.path ht.path (r2.below (BA.out u hu)) (r4.below (BA.out u hu)))
 generalize sameS s.c t.c = R at *
 generalize decide (s.sig = t.sig) = q1 at *
 generalize decide (s.path = t.path) = q2 at *
 clear hs ht v1 v2 v3 v4 r1 r2 r3 r4 XA XB HX HY HZ BW
 go_enter Tryz.func61, Tryz.ntmps61
 go_upto_region 1 with fail
 rw [← hW]
 clear hW
 by_cases h : s.index = t.index
 ·have e1 : (s.index == t.index) = true := by rw [h]; simp
  have SO1 : Hid (R = (q1 && q2)) := Lib.hid (by rw [SO.out, decide_eq_true h, Bool.true_and])
  clear SO h
  go_wp2_with fail
  (with_reducible refine (E1.out _ SW).mono ?_)
  rintro e u2 ⟨rfl, d2⟩
  have O2 : OldB W u2 := SW.then d2
  clear d2 SW
  cases q1
  ·have RF : Hid (R = false) := Lib.hid (by rw [SO1.out, Bool.false_and])
   clear SO1
   go_wp2_with fail
   go_ret
   exact ⟨by rw [RF.out]; rfl, BA.out _ O2⟩
  ·have SO2 : Hid (R = q2) := Lib.hid (by rw [SO1.out, Bool.true_and])
   clear SO1
   go_wp2_with fail
   (with_reducible refine (E2.out _ O2).mono ?_)
   rintro e u3 ⟨rfl, d3⟩
   have O3 : OldB W u3 := O2.then d3
   clear d3 O2
   go_wp2_with fail
   go_ret
   exact ⟨by rw [SO2.out]; rfl, BA.out _ O3⟩
 ·have e1 : (s.index == t.index) = false := by simpa using h
  have RF : Hid (R = false) := Lib.hid (by rw [SO.out, decide_eq_false h, Bool.false_and])
  clear SO h
  go_wp2_with fail
  go_ret
  exact ⟨by rw [RF.out]; rfl, BA.out _ SW⟩
theorem seals_any (s t : SlV) (w : World) (h : SlvIs w s) (k : SlvIs w t) (hs : SeSz s.c) (ht : SeSz t.c) :
  Calls Tryz.prog 100 #[.agg (slL s).toArray, .agg (slL t).toArray] w fun e w' => e = .returned (.bool (sameS s.c t.c)) ∧ Below w.heap.size w w' := by
 obtain ⟨⟨A1, c1, v1, r1⟩, ⟨A2, c2, v2, r2⟩⟩ := h
 obtain ⟨⟨A3, c3, v3, r3⟩, ⟨A4, c4, v4, r4⟩⟩ := k
 have SO : Hid (sameS s.c t.c = (decide (s.index = t.index) && (decide (s.sig = t.sig) && decide (s.path = t.path)))) := Lib.hid (Bool.and_assoc _ _ _)
 obtain ⟨W, hW⟩ : ∃ W, W = (w.alloc (.cells (slL s).toArray 51)).alloc (.cells (slL t).toArray 51) := ⟨_, rfl⟩
 have BW : Hid (Below w.heap.size w W) := Lib.hid (by rw [hW]; exact ((Below.refl _ _).alloc (Nat.le_refl _) _).alloc (by simp) _)
 have HX : Hid (W.heap[w.heap.size]? = some (.cells (slL s).toArray 51 (0, 0))) := Lib.hid (by rw [hW]; exact (alloc_old _ _ (by simp)).trans (heap_alloc_new w _))
 have HY : Hid (W.heap[w.heap.size + 1]? = some (.cells (slL t).toArray 51 (0, 0))) := Lib.hid (by rw [hW]; exact alloc_new' _ _ _ (by simp))
 have HZ : W.heap.size = w.heap.size + 2 := by rw [hW]; simp
 have BA : Hid (∀ u, OldB W u → Below w.heap.size w u) := Lib.hid (fun u hu => BW.out.trans (Below.mono hu BW.out.size))
 have XA := fun u (hu : OldB W u) => (hu.block w.heap.size (by omega)).trans HX.out
 have XB := fun u (hu : OldB W u) => (hu.block (w.heap.size + 1) (by omega)).trans HY.out
 have SW : OldB W W := Below.refl _ _
 have a0 : ∀ u, OldB W u → u.cell? ⟨w.heap.size, 0, none⟩ = some (.int .i64 s.index) := fun u hu => load_block (XA u hu) (by rfl)
 have a1 : ∀ u, OldB W u → u.cell? ⟨w.heap.size, 1, none⟩ = some (.slice A1 s.sig.length c1) := fun u hu => by rw [← v1]; exact load_block (XA u hu) (by rfl)
 have a2 : ∀ u, OldB W u → u.cell? ⟨w.heap.size, 2, none⟩ = some (.slice A2 s.path.length c2) := fun u hu => by rw [← v2]; exact load_block (XA u hu) (by rfl)
 have b0 : ∀ u, OldB W u → u.cell? ⟨w.heap.size + 1, 0, none⟩ = some (.int .i64 t.index) := fun u hu => load_block (XB u hu) (by rfl)
 have b1 : ∀ u, OldB W u → u.cell? ⟨w.heap.size + 1, 1, none⟩ = some (.slice A3 t.sig.length c3) := fun u hu => by rw [← v3]; exact load_block (XB u hu) (by rfl)
 have b2 : ∀ u, OldB W u → u.cell? ⟨w.heap.size + 1, 2, none⟩ = some (.slice A4 t.path.length c4) := fun u hu => by rw [← v4]; exact load_block (XB u hu) (by rfl)
 have E1 : Hid (∀ u, OldB W u → Calls Tryz.prog 97 #[.slice A1 s.sig.length c1, .slice A3 t.sig.length c3] u fun e w' => e = .returned (.bool (decide (s.sig = t.sig))) ∧ Below u.heap.size u w') := Lib.hid (fun u hu => eqs_any A1 A3 c1 c3 s.sig t.sig _ _ u rfl rfl hs.sig ht.sig (r1.below (BA.out u hu)) (r3.below (BA.out u hu)))
 have E2 : Hid (∀ u, OldB W u → Calls Tryz.prog 97 #[.slice A2 s.path.length c2, .slice A4 t.path.length c4] u fun e w' => e = .returned (.bool (decide (s.path = t.path))) ∧ Below u.heap.size u w') := Lib.hid (fun u hu => eqs_any A2 A4 c2 c4 s.path t.path _ _ u rfl rfl hs.path ht.path (r2.below (BA.out u hu)) (r4.below (BA.out u hu)))
 generalize sameS s.c t.c = R at *
 generalize decide (s.sig = t.sig) = q1 at *
 generalize decide (s.path = t.path) = q2 at *
 clear hs ht v1 v2 v3 v4 r1 r2 r3 r4 XA XB HX HY HZ BW
 go_enter Tryz.func100, Tryz.ntmps100
 go_upto_region 1 with fail
 rw [← hW]
 clear hW
 by_cases h : s.index = t.index
 ·have e1 : (s.index == t.index) = true := by rw [h]; simp
  have SO1 : Hid (R = (q1 && q2)) := Lib.hid (by rw [SO.out, decide_eq_true h, Bool.true_and])
  clear SO h
  go_wp2_with fail
  (with_reducible refine (E1.out _ SW).mono ?_)
  rintro e u2 ⟨rfl, d2⟩
  have O2 : OldB W u2 := SW.then d2
  clear d2 SW
  cases q1
  ·have RF : Hid (R = false) := Lib.hid (by rw [SO1.out, Bool.false_and])
   clear SO1
   go_wp2_with fail
   go_ret
   exact ⟨by rw [RF.out]; rfl, BA.out _ O2⟩
  ·have SO2 : Hid (R = q2) := Lib.hid (by rw [SO1.out, Bool.true_and])
   clear SO1
   go_wp2_with fail
   (with_reducible refine (E2.out _ O2).mono ?_)
   rintro e u3 ⟨rfl, d3⟩
   have O3 : OldB W u3 := O2.then d3
   clear d3 O2
   go_wp2_with fail
   go_ret
   exact ⟨by rw [SO2.out]; rfl, BA.out _ O3⟩
 ·have e1 : (s.index == t.index) = false := by simpa using h
  have RF : Hid (R = false) := Lib.hid (by rw [SO.out, decide_eq_false h, Bool.false_and])
  clear SO h
  go_wp2_with fail
  go_ret
  exact ⟨by rw [RF.out]; rfl, BA.out _ SW⟩
end Go.Proofs.YtniklmikdkjgiaaGreatDoor
