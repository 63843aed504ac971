import Derived.Test.YtniklmikdkjgiaaGreatDoorVXK
set_option linter.all false
set_option maxHeartbeats 16000000
set_option maxRecDepth 100000
namespace Go.Proofs.YtniklmikdkjgiaaGreatDoor
open Go.RowKit
theorem rprv_any (a b : RV) (w : World) (h : RvIs w a) (k : RvIs w b) (ha : RcSz a.c) (hb : RcSz b.c) :
  Calls Tryz.prog 71 #[.agg (prL a).toArray, .agg (prL b).toArray] w fun e w' => e = .returned (.bool (prvC a.c.priv b.c.priv)) ∧ Below w.heap.size w w' := by
 obtain ⟨A1, c1, v1, r1⟩ := h.so
 obtain ⟨A2, c2, v2, r2⟩ := k.so
 obtain ⟨A3, c3, v3, r3⟩ := h.tr
 obtain ⟨A4, c4, v4, r4⟩ := k.tr
 have SO : Hid (prvC a.c.priv b.c.priv = (decide (a.name = b.name) && (decide (a.reason = b.reason) && (decide (a.sources = b.sources) && decide (a.trace = b.trace))))) := Lib.hid (by rw [show prvC a.c.priv b.c.priv = (decide (a.name = b.name) && decide (a.reason = b.reason) && decide (a.sources = b.sources) && decide (a.trace = b.trace)) from rfl]; simp only [Bool.and_assoc])
 obtain ⟨W, hW⟩ : ∃ W, W = (w.alloc (.cells (prL a).toArray 54)).alloc (.cells (prL b).toArray 54) := ⟨_, rfl⟩
 have BW : Hid (Below w.heap.size w W) := Lib.hid (by rw [hW]; exact ((Below.refl _ _).alloc (Nat.le_refl _) _).alloc (by simp) _)
 have HX : Hid (W.heap[w.heap.size]? = some (.cells (prL a).toArray 54 (0, 0))) := Lib.hid (by rw [hW]; exact (alloc_old _ _ (by simp)).trans (heap_alloc_new w _))
 have HY : Hid (W.heap[w.heap.size + 1]? = some (.cells (prL b).toArray 54 (0, 0))) := Lib.hid (by rw [hW]; exact alloc_new' _ _ _ (by simp))
 have HZ : W.heap.size = w.heap.size + 2 := by rw [hW]; simp
 have BA : Hid (∀ u, OldB W u → Below w.heap.size w u) := Lib.hid (fun u hu => BW.out.trans (Below.mono hu BW.out.size))
 have XA := fun u (hu : OldB W u) => (hu.block w.heap.size (by omega)).trans HX.out
 have XB := fun u (hu : OldB W u) => (hu.block (w.heap.size + 1) (by omega)).trans HY.out
 have SW : OldB W W := Below.refl _ _
 have a0 : ∀ u, OldB W u → u.cell? ⟨w.heap.size, 0, none⟩ = some (.string (mkB a.name)) := fun u hu => load_block (XA u hu) (by rfl)
 have a1 : ∀ u, OldB W u → u.cell? ⟨w.heap.size, 1, none⟩ = some (.string (mkB a.reason)) := fun u hu => load_block (XA u hu) (by rfl)
 have b0 : ∀ u, OldB W u → u.cell? ⟨w.heap.size + 1, 0, none⟩ = some (.string (mkB b.name)) := fun u hu => load_block (XB u hu) (by rfl)
 have b1 : ∀ u, OldB W u → u.cell? ⟨w.heap.size + 1, 1, none⟩ = some (.string (mkB b.reason)) := fun u hu => load_block (XB u hu) (by rfl)
 have a2 : ∀ u, OldB W u → u.cell? ⟨w.heap.size, 2, none⟩ = some (.slice A1 a.sources.length c1) := fun u hu => by rw [← v1]; exact load_block (XA u hu) (by rfl)
 have b2 : ∀ u, OldB W u → u.cell? ⟨w.heap.size + 1, 2, none⟩ = some (.slice A2 b.sources.length c2) := fun u hu => by rw [← v2]; exact load_block (XB u hu) (by rfl)
 have a3 : ∀ u, OldB W u → u.cell? ⟨w.heap.size, 3, none⟩ = some (.slice A3 a.trace.length c3) := fun u hu => by rw [← v3]; exact load_block (XA u hu) (by rfl)
 have b3 : ∀ u, OldB W u → u.cell? ⟨w.heap.size + 1, 3, none⟩ = some (.slice A4 b.trace.length c4) := fun u hu => by rw [← v4]; exact load_block (XB u hu) (by rfl)
 have ta_name := mkB_tl a.name
 have tb_name := mkB_tl b.name
 have ta_reason := mkB_tl a.reason
 have tb_reason := mkB_tl b.reason
 have E1 : Hid (∀ u, OldB W u → Calls Tryz.prog 102 #[.slice A1 a.sources.length c1, .slice A2 b.sources.length c2] u fun e w' => e = .returned (.bool (decide (a.sources = b.sources))) ∧ Below u.heap.size u w') := Lib.hid (fun u hu => rstrs_any A1 A2 c1 c2 a.sources b.sources _ _ u rfl rfl ha.sources hb.sources (r1.below (BA.out u hu)) (r2.below (BA.out u hu)))
 have RR1 : Hid (∀ u, OldB W u → Rd u A3 (ptsL a.trace)) := Lib.hid (fun u hu => r3.below (BA.out u hu))
 have RR2 : Hid (∀ u, OldB W u → Rd u A4 (ptsL b.trace)) := Lib.hid (fun u hu => r4.below (BA.out u hu))
 have hl1 : a.trace.length ≤ 1000000 := ha.trace
 have hl2 : b.trace.length ≤ 1000000 := hb.trace
 generalize prvC a.c.priv b.c.priv = R at *
 generalize decide (a.sources = b.sources) = q1 at *
 generalize (prL a).toArray = xa at *
 generalize (prL b).toArray = xb at *
 generalize a.trace = lr at *
 generalize b.trace = ls at *
 obtain ⟨n1, hn1⟩ : ∃ n, lr.length = n := ⟨_, rfl⟩
 obtain ⟨n3, hn3⟩ : ∃ n, ls.length = n := ⟨_, rfl⟩
 have N1 := Lib.hid hn1
 have N3 := Lib.hid hn3
 simp only [hn1, hn3] at a3 b3 hl1 hl2
 clear hn1 hn3 h k ha hb v1 v2 v3 v4 r1 r2 r3 r4 XA XB HX HY HZ BW
 go_enter Tryz.func71, Tryz.ntmps71
 go_upto_region 1 with fail
 rw [← hW]
 clear hW
 by_cases h : a.name = b.name
 ·have e1 : (a.name == b.name) = true := by rw [h]; simp
  have f1 : (a.name != b.name) = false := by rw [h]; simp
  have SO1 : Hid (R = (decide (a.reason = b.reason) && (q1 && (decide (lr = ls))))) := Lib.hid (by rw [SO.out, decide_eq_true h, Bool.true_and])
  clear SO h
  by_cases h : a.reason = b.reason
  ·have e2 : (a.reason == b.reason) = true := by rw [h]; simp
   have f2 : (a.reason != b.reason) = false := by rw [h]; simp
   have SO2 : Hid (R = (q1 && (decide (lr = ls)))) := Lib.hid (by rw [SO1.out, decide_eq_true h, Bool.true_and])
   clear SO1 h
   go_wp2_with fail
   (with_reducible refine (E1.out _ SW).mono ?_)
   rintro e u3 ⟨rfl, d3⟩
   have O3 : OldB W u3 := SW.then d3
   clear d3 SW
   cases q1
   ·have RF : Hid (R = false) := Lib.hid (by rw [SO2.out, Bool.false_and])
    clear SO2
    go_wp2_with fail
    go_ret
    exact ⟨by rw [RF.out]; rfl, BA.out _ O3⟩
   ·have SO3 : Hid (R = (decide (lr = ls))) := Lib.hid (by rw [SO2.out, Bool.true_and])
    clear SO2
    by_cases h5 : n1 = n3
    ·have e5 : ((n1 : Int) != (n3 : Int)) = false := by rw [h5]; simp
     have H5 := Lib.hid h5
     clear h5
     go_wp2_with fail
     go_loopw [5] (fun i wr => ∃ k : Nat, k ≤ n1 ∧ i = .int .i64 (k : Int) ∧ Hid (∀ j (_ : j < k) (h : j < lr.length) (h' : j < ls.length), lr[j] = ls[j]) ∧ OldB W wr) (fun i _ => n1 - (intOf i).toNat)
     case atStart => exact ⟨0, Nat.zero_le _, rfl, Lib.hid (fun j h => absurd h (Nat.not_lt_zero _)), O3⟩
     case round =>
      clear O3
      obtain ⟨k, hk, rfl, AL, BL⟩ := hrel
      by_cases hlt : k < n1
      ·have hkl : k < lr.length := by rw [N1.out]; exact hlt
       have hkm : k < ls.length := by rw [N3.out, ← H5.out]; exact hlt
       have d1 : (k : Int) < (n1 : Int) := by omega
       have d3 : (k : Int) < (n3 : Int) := by have := H5.out; omega
       have d2 : (0 : Int) ≤ (k : Int) := by omega
       obtain ⟨b, off, rfl, hb, c0, c0y⟩ := pts_at (RR1.out wr BL) hkl
       obtain ⟨b', off', rfl, hb', c1, c1y⟩ := pts_at (RR2.out wr BL) hkm
       have ALn : Hid (lr[k] = ls[k] → ∀ j (_ : j < k + 1) (h : j < lr.length) (h' : j < ls.length), lr[j] = ls[j]) := Lib.hid (fun hc j hj h h' => by
        rcases Nat.lt_succ_iff_lt_or_eq.1 hj with h1 | h1
        ·exact AL.out j h1 h h'
        ·subst h1; exact hc)
       have NE : Hid (lr[k] ≠ ls[k] → R = false) := Lib.hid (fun hc => by rw [SO3.out, decide_eq_false (list_ne_at hkl hkm hc)])
       have z8 := a3 wr BL
       have y8 := b3 wr BL
       have B2 := Lib.hid (BA.out wr BL)
       have BK := Lib.hid BL
       have EE : Hid (lr[k] = ls[k] ↔ lr[k].1 = ls[k].1 ∧ lr[k].2 = ls[k].2) := Lib.hid Prod.ext_iff
       generalize lr[k] = x at *
       generalize ls[k] = y at *
       obtain ⟨x1, x2⟩ := x
       obtain ⟨y1, y2⟩ := y
       dsimp only at c0 c0y c1 c1y EE
       by_cases h1 : x1 = y1
       ·have f1 : (x1 == y1) = true := by rw [h1]; simp
        by_cases h2 : x2 = y2
        ·have f2 : (x2 == y2) = true := by rw [h2]; simp
         have A2' := Lib.hid (ALn.out (EE.out.2 ⟨h1, h2⟩))
         clear ALn NE EE h1 h2
         go_wp2_with fail
         go_quiet (fail)
         go_wp2_with fail
         exact ⟨⟨k + 1, by omega, by go_num, A2', belowNN BK.out _⟩, by simp [intOf]; omega⟩
        ·have f2 : (x2 == y2) = false := by simpa using h2
         have A2' := Lib.hid (NE.out (fun e => h2 (EE.out.1 e).2))
         clear ALn NE EE h1 h2
         go_wp2_with fail
         go_quiet (fail)
         go_wp2_with fail
         go_ret
         exact ⟨by rw [A2'.out]; rfl, belowNN B2.out _⟩
       ·have f1 : (x1 == y1) = false := by simpa using h1
        have A2' := Lib.hid (NE.out (fun e => h1 (EE.out.1 e).1))
        clear ALn NE EE h1
        go_wp2_with fail
        go_quiet (fail)
        go_wp2_with fail
        go_ret
        exact ⟨by rw [A2'.out]; rfl, belowNN B2.out _⟩
      ·have d1 : ¬ (k : Int) < (n1 : Int) := by omega
       have RT : Hid (R = true) := Lib.hid (by
        rw [SO3.out, decide_eq_true (List.ext_getElem (by rw [N1.out, N3.out, H5.out]) (fun j h h' => AL.out j (by have := N1.out; omega) h h'))])
       have B2 := Lib.hid (BA.out wr BL)
       clear AL SO3
       go_wp2_with fail
       go_ret
       exact ⟨by rw [RT.out]; rfl, B2.out⟩
    ·have e5 : ((n1 : Int) != (n3 : Int)) = true := by simp; omega
     have RF : Hid (R = false) := Lib.hid (by rw [SO3.out, decide_eq_false (fun e => h5 (by rw [← N1.out, ← N3.out, e]))])
     clear SO3 h5
     go_wp2_with fail
     go_ret
     exact ⟨by rw [RF.out]; rfl, BA.out _ O3⟩
  ·have e2 : (a.reason == b.reason) = false := by simpa using h
   have f2 : (a.reason != b.reason) = true := by simpa using h
   have RF : Hid (R = false) := Lib.hid (by rw [SO1.out, decide_eq_false h, Bool.false_and])
   clear SO1 h
   go_wp2_with fail
   go_ret
   exact ⟨by rw [RF.out]; rfl, BA.out _ SW⟩
 ·have e1 : (a.name == b.name) = false := by simpa using h
  have f1 : (a.name != b.name) = true := by simpa using h
  have RF : Hid (R = false) := Lib.hid (by rw [SO.out, decide_eq_false h, Bool.false_and])
  clear SO h
  go_wp2_with fail
  go_ret
  exact ⟨by rw [RF.out]; rfl, BA.out _ SW⟩
end Go.Proofs.YtniklmikdkjgiaaGreatDoor
namespace Go.Proofs.YtniklmikdkjgiaaGreatDoor
open Go.RowKit
theorem pprv_any (a b : RV) (w : World) (h : RvIs w a) (k : RvIs w b) (ha : RcSz a.c) (hb : RcSz b.c) :
  Calls Tryz.prog 59 #[.agg (prL a).toArray, .agg (prL b).toArray] w fun e w' => e = .returned (.bool (prvC a.c.priv b.c.priv && sameS a.c.priv.sla b.c.priv.sla)) ∧ Below w.heap.size w w' := by
 obtain ⟨A1, c1, v1, r1⟩ := h.so
 obtain ⟨A2, c2, v2, r2⟩ := k.so
 obtain ⟨A3, c3, v3, r3⟩ := h.tr
 obtain ⟨A4, c4, v4, r4⟩ := k.tr
 have SO : Hid ((prvC a.c.priv b.c.priv && sameS a.c.priv.sla b.c.priv.sla) = (decide (a.name = b.name) && (decide (a.reason = b.reason) && (decide (a.sources = b.sources) && (decide (a.trace = b.trace) && sameS a.c.priv.sla b.c.priv.sla))))) := Lib.hid (by rw [show prvC a.c.priv b.c.priv = (decide (a.name = b.name) && decide (a.reason = b.reason) && decide (a.sources = b.sources) && decide (a.trace = b.trace)) from rfl]; simp only [Bool.and_assoc])
 obtain ⟨W, hW⟩ : ∃ W, W = (w.alloc (.cells (prL a).toArray 54)).alloc (.cells (prL b).toArray 54) := ⟨_, rfl⟩
 have BW : Hid (Below w.heap.size w W) := Lib.hid (by rw [hW]; exact ((Below.refl _ _).alloc (Nat.le_refl _) _).alloc (by simp) _)
 have HX : Hid (W.heap[w.heap.size]? = some (.cells (prL a).toArray 54 (0, 0))) := Lib.hid (by rw [hW]; exact (alloc_old _ _ (by simp)).trans (heap_alloc_new w _))
 have HY : Hid (W.heap[w.heap.size + 1]? = some (.cells (prL b).toArray 54 (0, 0))) := Lib.hid (by rw [hW]; exact alloc_new' _ _ _ (by simp))
 have HZ : W.heap.size = w.heap.size + 2 := by rw [hW]; simp
 have BA : Hid (∀ u, OldB W u → Below w.heap.size w u) := Lib.hid (fun u hu => BW.out.trans (Below.mono hu BW.out.size))
 have XA := fun u (hu : OldB W u) => (hu.block w.heap.size (by omega)).trans HX.out
 have XB := fun u (hu : OldB W u) => (hu.block (w.heap.size + 1) (by omega)).trans HY.out
 have SW : OldB W W := Below.refl _ _
 have a0 : ∀ u, OldB W u → u.cell? ⟨w.heap.size, 0, none⟩ = some (.string (mkB a.name)) := fun u hu => load_block (XA u hu) (by rfl)
 have a1 : ∀ u, OldB W u → u.cell? ⟨w.heap.size, 1, none⟩ = some (.string (mkB a.reason)) := fun u hu => load_block (XA u hu) (by rfl)
 have b0 : ∀ u, OldB W u → u.cell? ⟨w.heap.size + 1, 0, none⟩ = some (.string (mkB b.name)) := fun u hu => load_block (XB u hu) (by rfl)
 have b1 : ∀ u, OldB W u → u.cell? ⟨w.heap.size + 1, 1, none⟩ = some (.string (mkB b.reason)) := fun u hu => load_block (XB u hu) (by rfl)
 have a2 : ∀ u, OldB W u → u.cell? ⟨w.heap.size, 2, none⟩ = some (.slice A1 a.sources.length c1) := fun u hu => by rw [← v1]; exact load_block (XA u hu) (by rfl)
 have b2 : ∀ u, OldB W u → u.cell? ⟨w.heap.size + 1, 2, none⟩ = some (.slice A2 b.sources.length c2) := fun u hu => by rw [← v2]; exact load_block (XB u hu) (by rfl)
 have a3 : ∀ u, OldB W u → u.cell? ⟨w.heap.size, 3, none⟩ = some (.slice A3 a.trace.length c3) := fun u hu => by rw [← v3]; exact load_block (XA u hu) (by rfl)
 have b3 : ∀ u, OldB W u → u.cell? ⟨w.heap.size + 1, 3, none⟩ = some (.slice A4 b.trace.length c4) := fun u hu => by rw [← v4]; exact load_block (XB u hu) (by rfl)
 have ta_name := mkB_tl a.name
 have tb_name := mkB_tl b.name
 have ta_reason := mkB_tl a.reason
 have tb_reason := mkB_tl b.reason
 have E1 : Hid (∀ u, OldB W u → Calls Tryz.prog 97 #[.slice A1 a.sources.length c1, .slice A2 b.sources.length c2] u fun e w' => e = .returned (.bool (decide (a.sources = b.sources))) ∧ Below u.heap.size u w') := Lib.hid (fun u hu => eqs_any A1 A2 c1 c2 a.sources b.sources _ _ u rfl rfl ha.sources hb.sources (r1.below (BA.out u hu)) (r2.below (BA.out u hu)))
 have E2 : Hid (∀ u, OldB W u → Calls Tryz.prog 101 #[.slice A3 a.trace.length c3, .slice A4 b.trace.length c4] u fun e w' => e = .returned (.bool (decide (a.trace = b.trace))) ∧ Below u.heap.size u w') := Lib.hid (fun u hu => eqp_any A3 A4 c3 c4 a.trace b.trace _ _ u rfl rfl ha.trace hb.trace (r3.below (BA.out u hu)) (r4.below (BA.out u hu)))
 have E3 : Hid (∀ u, OldB W u → Calls Tryz.prog 100 #[.agg (slL a.pseal).toArray, .agg (slL b.pseal).toArray] u fun e w' => e = .returned (.bool (sameS a.c.priv.sla b.c.priv.sla)) ∧ Below u.heap.size u w') := Lib.hid (fun u hu => seals_any a.pseal b.pseal u (h.ps.below (BA.out u hu)) (k.ps.below (BA.out u hu)) ha.pseal hb.pseal)
 have Ta : Hid (∀ u, OldB W u → u.rangeAt (w.heap.size) 4 (slL a.pseal)) := Lib.hid (fun u hu => by have := pr_psl (r := a) (o := 0) (by have := range_of_row (XA u hu); simpa using this); simpa using this)
 have Tb : Hid (∀ u, OldB W u → u.rangeAt (w.heap.size + 1) 4 (slL b.pseal)) := Lib.hid (fun u hu => by have := pr_psl (r := b) (o := 0) (by have := range_of_row (XB u hu); simpa using this); simpa using this)
 generalize (prvC a.c.priv b.c.priv && sameS a.c.priv.sla b.c.priv.sla) = R at *
 generalize decide (a.sources = b.sources) = q1 at *
 generalize decide (a.trace = b.trace) = q2 at *
 generalize sameS a.c.priv.sla b.c.priv.sla = q3 at *
 generalize (prL a).toArray = xa at *
 generalize (prL b).toArray = xb at *
 clear h k ha hb v1 v2 v3 v4 r1 r2 r3 r4 XA XB HX HY HZ BW
 go_enter Tryz.func59, Tryz.ntmps59
 go_upto_region 1 with fail
 rw [← hW]
 clear hW
 by_cases h : a.name = b.name
 ·have e1 : (a.name == b.name) = true := by rw [h]; simp
  have SO1 : Hid (R = (decide (a.reason = b.reason) && (q1 && (q2 && q3)))) := Lib.hid (by rw [SO.out, decide_eq_true h, Bool.true_and])
  clear SO h
  by_cases h : a.reason = b.reason
  ·have e2 : (a.reason == b.reason) = true := by rw [h]; simp
   have SO2 : Hid (R = (q1 && (q2 && q3))) := Lib.hid (by rw [SO1.out, decide_eq_true h, Bool.true_and])
   clear SO1 h
   go_wp2_with fail
   (with_reducible refine (E1.out _ SW).mono ?_)
   rintro e u3 ⟨rfl, d3⟩
   have O3 : OldB W u3 := SW.then d3
   clear d3 SW
   cases q1
   ·have RF : Hid (R = false) := Lib.hid (by rw [SO2.out, Bool.false_and])
    clear SO2
    go_wp2_with fail
    go_ret
    exact ⟨by rw [RF.out]; rfl, BA.out _ O3⟩
   ·have SO3 : Hid (R = (q2 && q3)) := Lib.hid (by rw [SO2.out, Bool.true_and])
    clear SO2
    go_wp2_with fail
    (with_reducible refine (E2.out _ O3).mono ?_)
    rintro e u4 ⟨rfl, d4⟩
    have O4 : OldB W u4 := O3.then d4
    clear d4 O3
    cases q2
    ·have RF : Hid (R = false) := Lib.hid (by rw [SO3.out, Bool.false_and])
     clear SO3
     go_wp2_with fail
     go_ret
     exact ⟨by rw [RF.out]; rfl, BA.out _ O4⟩
    ·have SO4 : Hid (R = q3) := Lib.hid (by rw [SO3.out, Bool.true_and])
     clear SO3
     go_wp2_with (first | (refine wpList_load_midG (by simp [Region.wanted, yielded]; done) 51 (.tmp 32) rfl (w.heap.size) 4 rfl (slL a.pseal) _ (Ta.out _ (by assumption)) Tryz.underlying51 rfl (by kernel_rfl) ?_) | (refine wpList_load_midG (by simp [Region.wanted, yielded]; done) 51 (.tmp 34) rfl (w.heap.size + 1) 4 rfl (slL b.pseal) _ (Tb.out _ (by assumption)) Tryz.underlying51 rfl (by kernel_rfl) ?_))
     (with_reducible refine (E3.out _ O4).mono ?_)
     rintro e u5 ⟨rfl, d5⟩
     have O5 : OldB W u5 := O4.then d5
     clear d5 O4
     go_wp2_with fail
     go_ret
     exact ⟨by rw [SO4.out]; rfl, BA.out _ O5⟩
  ·have e2 : (a.reason == b.reason) = false := by simpa using h
   have RF : Hid (R = false) := Lib.hid (by rw [SO1.out, decide_eq_false h, Bool.false_and])
   clear SO1 h
   go_wp2_with fail
   go_ret
   exact ⟨by rw [RF.out]; rfl, BA.out _ SW⟩
 ·have e1 : (a.name == b.name) = false := by simpa using h
  have RF : Hid (R = false) := Lib.hid (by rw [SO.out, decide_eq_false h, Bool.false_and])
  clear SO h
  go_wp2_with fail
  go_ret
  exact ⟨by rw [RF.out]; rfl, BA.out _ SW⟩
end Go.Proofs.YtniklmikdkjgiaaGreatDoor
