import Derived.Test.YtniklmikdkjgiaaGreatDoorCLD
import Derived.Test.YtniklmikdkjgiaaGreatDoorCXK
import Derived.Test.YtniklmikdkjgiaaGreatDoorWD
set_option linter.all false
set_option maxHeartbeats 16000000
set_option maxRecDepth 100000
namespace Go.Proofs.YtniklmikdkjgiaaGreatDoor
open Go.RowKit
theorem redit_any (a b : EV) (w : World) (h : EvIs w a) (k : EvIs w b) (ha : EdSz a.c) (hb : EdSz b.c) :
  Calls Tryz.prog 116 #[.agg (evL a).toArray, .agg (evL b).toArray] w fun e w' => e = .returned (.bool (sameE a.c b.c)) ∧ Below w.heap.size w w' := by
 have SO : Hid (sameE a.c b.c = (decide (a.op = b.op) && (decide (a.id = b.id) && (decide (a.other = b.other) && (decide (a.node = b.node) && (decide (a.x = b.x) && (decide (a.y = b.y) && (decide (a.key = b.key) && (decide (a.value = b.value) && (decide (a.refs = b.refs) && At.sameO a.o.c b.o.c)))))))))) := Lib.hid (by rw [show sameE a.c b.c = (((decide (a.refs = b.refs) && At.sameO a.o.c b.o.c) && decide (a.op = b.op)) && (decide (a.id = b.id) && decide (a.other = b.other) && decide (a.node = b.node) && decide (a.key = b.key)) && decide (a.value = b.value) && (decide (a.x = b.x) && decide (a.y = b.y))) from rfl]; ac_rfl)
 obtain ⟨⟨A1, c1, v1, r1⟩, ho1⟩ := h
 obtain ⟨⟨A2, c2, v2, r2⟩, ho2⟩ := k
 obtain ⟨W, hW⟩ : ∃ W, W = (w.alloc (.cells (evL a).toArray 93)).alloc (.cells (evL b).toArray 93) := ⟨_, rfl⟩
 have BW : Hid (Below w.heap.size w W) := Lib.hid (by rw [hW]; exact ((Below.refl _ _).alloc (Nat.le_refl _) _).alloc (by simp) _)
 have HX : Hid (W.heap[w.heap.size]? = some (.cells (evL a).toArray 93 (0, 0))) := Lib.hid (by rw [hW]; exact (alloc_old _ _ (by simp)).trans (heap_alloc_new w _))
 have HY : Hid (W.heap[w.heap.size + 1]? = some (.cells (evL b).toArray 93 (0, 0))) := Lib.hid (by rw [hW]; exact alloc_new' _ _ _ (by simp))
 have HZ : W.heap.size = w.heap.size + 2 := by rw [hW]; simp
 have BA : Hid (∀ u, OldB W u → Below w.heap.size w u) := Lib.hid (fun u hu => BW.out.trans (Below.mono hu BW.out.size))
 have XA := fun u (hu : OldB W u) => (hu.block w.heap.size (by omega)).trans HX.out
 have XB := fun u (hu : OldB W u) => (hu.block (w.heap.size + 1) (by omega)).trans HY.out
 have SW : OldB W W := Below.refl _ _
 have a0 : ∀ u, OldB W u → u.cell? ⟨w.heap.size, 0, none⟩ = some (.int .i64 a.op) := fun u hu => load_block (XA u hu) (by rfl)
 have a1 : ∀ u, OldB W u → u.cell? ⟨w.heap.size, 1, none⟩ = some (.string (mkB a.id)) := fun u hu => load_block (XA u hu) (by rfl)
 have a2 : ∀ u, OldB W u → u.cell? ⟨w.heap.size, 2, none⟩ = some (.string (mkB a.other)) := fun u hu => load_block (XA u hu) (by rfl)
 have a3 : ∀ u, OldB W u → u.cell? ⟨w.heap.size, 3, none⟩ = some (.string (mkB a.node)) := fun u hu => load_block (XA u hu) (by rfl)
 have a4 : ∀ u, OldB W u → u.cell? ⟨w.heap.size, 4, none⟩ = some (.int .i64 a.x) := fun u hu => load_block (XA u hu) (by rfl)
 have a5 : ∀ u, OldB W u → u.cell? ⟨w.heap.size, 5, none⟩ = some (.int .i64 a.y) := fun u hu => load_block (XA u hu) (by rfl)
 have a6 : ∀ u, OldB W u → u.cell? ⟨w.heap.size, 6, none⟩ = some (.string (mkB a.key)) := fun u hu => load_block (XA u hu) (by rfl)
 have a7 : ∀ u, OldB W u → u.cell? ⟨w.heap.size, 7, none⟩ = some (.string (mkB a.value)) := fun u hu => load_block (XA u hu) (by rfl)
 have b0 : ∀ u, OldB W u → u.cell? ⟨w.heap.size + 1, 0, none⟩ = some (.int .i64 b.op) := fun u hu => load_block (XB u hu) (by rfl)
 have b1 : ∀ u, OldB W u → u.cell? ⟨w.heap.size + 1, 1, none⟩ = some (.string (mkB b.id)) := fun u hu => load_block (XB u hu) (by rfl)
 have b2 : ∀ u, OldB W u → u.cell? ⟨w.heap.size + 1, 2, none⟩ = some (.string (mkB b.other)) := fun u hu => load_block (XB u hu) (by rfl)
 have b3 : ∀ u, OldB W u → u.cell? ⟨w.heap.size + 1, 3, none⟩ = some (.string (mkB b.node)) := fun u hu => load_block (XB u hu) (by rfl)
 have b4 : ∀ u, OldB W u → u.cell? ⟨w.heap.size + 1, 4, none⟩ = some (.int .i64 b.x) := fun u hu => load_block (XB u hu) (by rfl)
 have b5 : ∀ u, OldB W u → u.cell? ⟨w.heap.size + 1, 5, none⟩ = some (.int .i64 b.y) := fun u hu => load_block (XB u hu) (by rfl)
 have b6 : ∀ u, OldB W u → u.cell? ⟨w.heap.size + 1, 6, none⟩ = some (.string (mkB b.key)) := fun u hu => load_block (XB u hu) (by rfl)
 have b7 : ∀ u, OldB W u → u.cell? ⟨w.heap.size + 1, 7, none⟩ = some (.string (mkB b.value)) := fun u hu => load_block (XB u hu) (by rfl)
 have a8 : ∀ u, OldB W u → u.cell? ⟨w.heap.size, 8, none⟩ = some (.slice A1 a.refs.length c1) := fun u hu => by rw [← v1]; exact load_block (XA u hu) (by rfl)
 have b8 : ∀ u, OldB W u → u.cell? ⟨w.heap.size + 1, 8, none⟩ = some (.slice A2 b.refs.length c2) := fun u hu => by rw [← v2]; exact load_block (XB u hu) (by rfl)
 have LA : Hid (∀ u, OldB W u → u.rangeAt w.heap.size 9 (roC a.o)) := Lib.hid (fun u hu => by have := ev_obj (e := a) (b := w.heap.size) (o := 0) (by have := range_of_row (XA u hu); simpa using this); simpa using this)
 have LB : Hid (∀ u, OldB W u → u.rangeAt (w.heap.size + 1) 9 (roC b.o)) := Lib.hid (fun u hu => by have := ev_obj (e := b) (b := w.heap.size + 1) (o := 0) (by have := range_of_row (XB u hu); simpa using this); simpa using this)
 have ta_id := mkB_tl a.id
 have tb_id := mkB_tl b.id
 have ta_other := mkB_tl a.other
 have tb_other := mkB_tl b.other
 have ta_node := mkB_tl a.node
 have tb_node := mkB_tl b.node
 have ta_key := mkB_tl a.key
 have tb_key := mkB_tl b.key
 have ta_value := mkB_tl a.value
 have tb_value := mkB_tl b.value
 have EO : Hid (∀ u, OldB W u → Calls Tryz.prog 144 #[.agg (roC a.o).toArray, .agg (roC b.o).toArray] u fun e w' => e = .returned (.bool (At.sameO a.o.c b.o.c)) ∧ Below u.heap.size u w') := Lib.hid (fun u hu => rsame_any a.o b.o u (ho1.below (BA.out u hu)) (ho2.below (BA.out u hu)) ha.ob hb.ob)
 have RR1 : Hid (∀ u, OldB W u → Rd u A1 (strsC a.refs)) := Lib.hid (fun u hu => r1.below (BA.out u hu))
 have RR2 : Hid (∀ u, OldB W u → Rd u A2 (strsC b.refs)) := Lib.hid (fun u hu => r2.below (BA.out u hu))
 have hl1 : a.refs.length ≤ 1000000 := ha.refs
 have hl2 : b.refs.length ≤ 1000000 := hb.refs
 generalize sameE a.c b.c = R at *
 generalize At.sameO a.o.c b.o.c = so at *
 have ZX : (Tryz.prog.info? 91).map (·.size) = some (roC a.o).length := by kernel_rfl
 have ZY : (Tryz.prog.info? 91).map (·.size) = some (roC b.o).length := by kernel_rfl
 generalize roC a.o = oa at *
 generalize roC b.o = ob at *
 generalize a.refs = lr at *
 generalize b.refs = ls at *
 obtain ⟨n1, hn1⟩ : ∃ n, lr.length = n := ⟨_, rfl⟩
 obtain ⟨n3, hn3⟩ : ∃ n, ls.length = n := ⟨_, rfl⟩
 have N1 := Lib.hid hn1
 have N3 := Lib.hid hn3
 simp only [hn1, hn3] at a8 b8 hl1 hl2
 clear hn1 hn3 ha hb v1 v2 r1 r2 ho1 ho2 XA XB HX HY HZ BW
 go_enter Tryz.func116, Tryz.ntmps116
 go_upto_region 1 with fail
 rw [← hW]
 clear hW
 by_cases h : a.op = b.op
 ·have e1 : (a.op == b.op) = true := by rw [h]; simp
  have f1 : (a.op != b.op) = false := by rw [h]; simp
  have SO1 : Hid (R = (decide (a.id = b.id) && (decide (a.other = b.other) && (decide (a.node = b.node) && (decide (a.x = b.x) && (decide (a.y = b.y) && (decide (a.key = b.key) && (decide (a.value = b.value) && (decide (lr = ls) && so))))))))) := Lib.hid (by rw [SO.out, decide_eq_true h, Bool.true_and])
  clear SO h
  by_cases h : a.id = b.id
  ·have e2 : (a.id == b.id) = true := by rw [h]; simp
   have f2 : (a.id != b.id) = false := by rw [h]; simp
   have SO2 : Hid (R = (decide (a.other = b.other) && (decide (a.node = b.node) && (decide (a.x = b.x) && (decide (a.y = b.y) && (decide (a.key = b.key) && (decide (a.value = b.value) && (decide (lr = ls) && so)))))))) := Lib.hid (by rw [SO1.out, decide_eq_true h, Bool.true_and])
   clear SO1 h
   by_cases h : a.other = b.other
   ·have e3 : (a.other == b.other) = true := by rw [h]; simp
    have f3 : (a.other != b.other) = false := by rw [h]; simp
    have SO3 : Hid (R = (decide (a.node = b.node) && (decide (a.x = b.x) && (decide (a.y = b.y) && (decide (a.key = b.key) && (decide (a.value = b.value) && (decide (lr = ls) && so))))))) := Lib.hid (by rw [SO2.out, decide_eq_true h, Bool.true_and])
    clear SO2 h
    by_cases h : a.node = b.node
    ·have e4 : (a.node == b.node) = true := by rw [h]; simp
     have f4 : (a.node != b.node) = false := by rw [h]; simp
     have SO4 : Hid (R = (decide (a.x = b.x) && (decide (a.y = b.y) && (decide (a.key = b.key) && (decide (a.value = b.value) && (decide (lr = ls) && so)))))) := Lib.hid (by rw [SO3.out, decide_eq_true h, Bool.true_and])
     clear SO3 h
     by_cases h : a.x = b.x
     ·have e5 : (a.x == b.x) = true := by rw [h]; simp
      have f5 : (a.x != b.x) = false := by rw [h]; simp
      have SO5 : Hid (R = (decide (a.y = b.y) && (decide (a.key = b.key) && (decide (a.value = b.value) && (decide (lr = ls) && so))))) := Lib.hid (by rw [SO4.out, decide_eq_true h, Bool.true_and])
      clear SO4 h
      by_cases h : a.y = b.y
      ·have e6 : (a.y == b.y) = true := by rw [h]; simp
       have f6 : (a.y != b.y) = false := by rw [h]; simp
       have SO6 : Hid (R = (decide (a.key = b.key) && (decide (a.value = b.value) && (decide (lr = ls) && so)))) := Lib.hid (by rw [SO5.out, decide_eq_true h, Bool.true_and])
       clear SO5 h
       by_cases h : a.key = b.key
       ·have e7 : (a.key == b.key) = true := by rw [h]; simp
        have f7 : (a.key != b.key) = false := by rw [h]; simp
        have SO7 : Hid (R = (decide (a.value = b.value) && (decide (lr = ls) && so))) := Lib.hid (by rw [SO6.out, decide_eq_true h, Bool.true_and])
        clear SO6 h
        by_cases h : a.value = b.value
        ·have e8 : (a.value == b.value) = true := by rw [h]; simp
         have f8 : (a.value != b.value) = false := by rw [h]; simp
         have SO8 : Hid (R = (decide (lr = ls) && so)) := Lib.hid (by rw [SO7.out, decide_eq_true h, Bool.true_and])
         clear SO7 h
         by_cases h5 : n1 = n3
         ·have e5 : ((n1 : Int) != (n3 : Int)) = false := by rw [h5]; simp
          have H5 := Lib.hid h5
          clear h5
          go_wp2_with fail
          go_loopw [5] (fun i wr => ∃ k : Nat, k ≤ n1 ∧ i = .int .i64 (k : Int) ∧ Hid (∀ j (_ : j < k) (h : j < lr.length) (h' : j < ls.length), lr[j] = ls[j]) ∧ OldB W wr) (fun i _ => n1 - (intOf i).toNat)
          case atStart => exact ⟨0, Nat.zero_le _, rfl, Lib.hid (fun j h => absurd h (Nat.not_lt_zero _)), SW⟩
          case round =>
           clear SW
           obtain ⟨k, hk, rfl, AL, BL⟩ := hrel
           by_cases hlt : k < n1
           ·have hkl : k < lr.length := by rw [N1.out]; exact hlt
            have hkm : k < ls.length := by rw [N3.out, ← H5.out]; exact hlt
            have d1 : (k : Int) < (n1 : Int) := by omega
            have d3 : (k : Int) < (n3 : Int) := by have := H5.out; omega
            have d2 : (0 : Int) ≤ (k : Int) := by omega
            obtain ⟨b, off, rfl, hb, c0⟩ := strs_at (RR1.out wr BL) hkl
            obtain ⟨b', off', rfl, hb', c0'⟩ := strs_at (RR2.out wr BL) hkm
            have ALn : Hid (lr[k] = ls[k] → ∀ j (_ : j < k + 1) (h : j < lr.length) (h' : j < ls.length), lr[j] = ls[j]) := Lib.hid (fun hc j hj h h' => by
             rcases Nat.lt_succ_iff_lt_or_eq.1 hj with h1 | h1
             ·exact AL.out j h1 h h'
             ·subst h1; exact hc)
            have NE : Hid (lr[k] ≠ ls[k] → R = false) := Lib.hid (fun hc => by rw [SO8.out, decide_eq_false (list_ne_at hkl hkm hc)]; rfl)
            have q1 := mkB_tl lr[k]
            have q2 := mkB_tl ls[k]
            have z8 := a8 wr BL
            have y8 := b8 wr BL
            have B2 := Lib.hid (BA.out wr BL)
            have BK := Lib.hid BL
            generalize lr[k] = x at *
            generalize ls[k] = y at *
            by_cases he : x = y
            ·have f1 : (x == y) = true := by rw [he]; simp
             have f2 : (x != y) = false := by rw [he]; simp
             have A2' := Lib.hid (ALn.out he)
             clear ALn NE he
             go_wp2_with fail
             go_quiet (fail)
             go_wp2_with fail
             exact ⟨⟨k + 1, by omega, by go_num, A2', belowNN BK.out _⟩, by simp [intOf]; omega⟩
            ·have f1 : (x == y) = false := by simpa using he
             have f2 : (x != y) = true := by simpa using he
             have A2' := Lib.hid (NE.out he)
             clear ALn NE he
             go_wp2_with fail
             go_quiet (fail)
             go_wp2_with fail
             go_ret
             exact ⟨by rw [A2'.out]; rfl, belowNN B2.out _⟩
           ·have d1 : ¬ (k : Int) < (n1 : Int) := by omega
            have S3 : Hid (R = so) := Lib.hid (by
             rw [SO8.out, decide_eq_true (List.ext_getElem (by rw [N1.out, N3.out, H5.out]) (fun j h h' => AL.out j (by have := N1.out; omega) h h'))]; rfl)
            clear AL SO8
            go_wp2_with (first | (refine wpList_load_mid rfl 91 (.tmp 80) rfl w.heap.size 9 rfl oa _ (LA.out _ BL) Tryz.underlying91 rfl ZX ?_) | (refine wpList_load_mid rfl 91 (.tmp 82) rfl (w.heap.size + 1) 9 rfl ob _ (LB.out _ BL) Tryz.underlying91 rfl ZY ?_))
            (with_reducible refine (EO.out _ BL).mono ?_)
            rintro e w9 ⟨rfl, b9⟩
            have B9 := Lib.hid (BA.out _ (BL.then b9))
            clear b9
            go_wp2_with fail
            go_ret
            exact ⟨by rw [S3.out]; rfl, B9.out⟩
         ·have e5 : ((n1 : Int) != (n3 : Int)) = true := by simp; omega
          have RF : Hid (R = false) := Lib.hid (by rw [SO8.out, decide_eq_false (fun e => h5 (by rw [← N1.out, ← N3.out, e])), Bool.false_and])
          clear SO8 h5
          go_wp2_with fail
          go_ret
          exact ⟨by rw [RF.out]; rfl, BA.out _ SW⟩
        ·have e8 : (a.value == b.value) = false := by simpa using h
         have f8 : (a.value != b.value) = true := by simpa using h
         have RF : Hid (R = false) := Lib.hid (by rw [SO7.out, decide_eq_false h, Bool.false_and])
         clear SO7 h
         go_wp2_with fail
         go_ret
         exact ⟨by rw [RF.out]; rfl, BA.out _ SW⟩
       ·have e7 : (a.key == b.key) = false := by simpa using h
        have f7 : (a.key != b.key) = true := by simpa using h
        have RF : Hid (R = false) := Lib.hid (by rw [SO6.out, decide_eq_false h, Bool.false_and])
        clear SO6 h
        go_wp2_with fail
        go_ret
        exact ⟨by rw [RF.out]; rfl, BA.out _ SW⟩
      ·have e6 : (a.y == b.y) = false := by simpa using h
       have f6 : (a.y != b.y) = true := by simpa using h
       have RF : Hid (R = false) := Lib.hid (by rw [SO5.out, decide_eq_false h, Bool.false_and])
       clear SO5 h
       go_wp2_with fail
       go_ret
       exact ⟨by rw [RF.out]; rfl, BA.out _ SW⟩
     ·have e5 : (a.x == b.x) = false := by simpa using h
      have f5 : (a.x != b.x) = true := by simpa using h
      have RF : Hid (R = false) := Lib.hid (by rw [SO4.out, decide_eq_false h, Bool.false_and])
      clear SO4 h
      go_wp2_with fail
      go_ret
      exact ⟨by rw [RF.out]; rfl, BA.out _ SW⟩
    ·have e4 : (a.node == b.node) = false := by simpa using h
     have f4 : (a.node != b.node) = true := by simpa using h
     have RF : Hid (R = false) := Lib.hid (by rw [SO3.out, decide_eq_false h, Bool.false_and])
     clear SO3 h
     go_wp2_with fail
     go_ret
     exact ⟨by rw [RF.out]; rfl, BA.out _ SW⟩
   ·have e3 : (a.other == b.other) = false := by simpa using h
    have f3 : (a.other != b.other) = true := by simpa using h
    have RF : Hid (R = false) := Lib.hid (by rw [SO2.out, decide_eq_false h, Bool.false_and])
    clear SO2 h
    go_wp2_with fail
    go_ret
    exact ⟨by rw [RF.out]; rfl, BA.out _ SW⟩
  ·have e2 : (a.id == b.id) = false := by simpa using h
   have f2 : (a.id != b.id) = true := by simpa using h
   have RF : Hid (R = false) := Lib.hid (by rw [SO1.out, decide_eq_false h, Bool.false_and])
   clear SO1 h
   go_wp2_with fail
   go_ret
   exact ⟨by rw [RF.out]; rfl, BA.out _ SW⟩
 ·have e1 : (a.op == b.op) = false := by simpa using h
  have f1 : (a.op != b.op) = true := by simpa using h
  have RF : Hid (R = false) := Lib.hid (by rw [SO.out, decide_eq_false h, Bool.false_and])
  clear SO h
  go_wp2_with fail
  go_ret
  exact ⟨by rw [RF.out]; rfl, BA.out _ SW⟩
theorem redits_any (A B : Option Addr) (c d : Nat) (l m : List EV) (n1 n2 : Nat) (w : World) (hn1 : n1 = l.length) (hn2 : n2 = m.length) (h : Es w A l) (h2 : Es w B m) :
  Calls Tryz.prog 70 #[.slice A n1 c, .slice B n2 d] w fun e w' => e = .returned (.bool (all2 (fun a b => sameE a.c b.c) l m)) ∧ Below w.heap.size w w' := by
 have hl : n1 ≤ 100000 := by rw [hn1]; exact h.len
 have hm : n2 ≤ 100000 := by rw [hn2]; exact h2.len
 have H := Lib.hid h
 have H2 := Lib.hid h2
 have HN := Lib.hid hn1
 have HM := Lib.hid hn2
 clear hn1 hn2 h h2
 obtain ⟨R, hR⟩ : ∃ R, all2 (fun a b => sameE a.c b.c) l m = R := ⟨_, rfl⟩
 have HR := Lib.hid hR
 rw [hR]
 clear hR
 have B0 : Hid (Below w.heap.size w w) := Lib.hid (Below.refl _ _)
 by_cases hlen : n1 = n2
 ·have hq : ((n1 : Int) != (n2 : Int)) = false := by rw [hlen]; simp
  have HL := Lib.hid hlen
  have HR0 : Hid (R = all2 (fun a b => sameE a.c b.c) (l.drop 0) (m.drop 0)) := Lib.hid HR.out.symm
  clear hlen HR
  go_enter Tryz.func70, Tryz.ntmps70
  go_wp2_with fail
  go_loopw [5] (fun i wr => ∃ k : Nat, k ≤ n1 ∧ i = .int .i64 (k : Int) ∧ Hid (R = all2 (fun a b => sameE a.c b.c) (l.drop k) (m.drop k)) ∧ Hid (Below w.heap.size w wr)) (fun i _ => n1 - (intOf i).toNat)
  case atStart => exact ⟨0, Nat.zero_le _, rfl, HR0, B0⟩
  case round =>
   clear B0 HR0
   obtain ⟨k, hk, rfl, HR, BL⟩ := hrel
   by_cases hlt : k < n1
   ·have hkl : k < l.length := by rw [← HN.out]; exact hlt
    have hkm : k < m.length := by rw [← HM.out, ← HL.out]; exact hlt
    have d1 : (k : Int) < (n1 : Int) := by omega
    have d3 : (k : Int) < (n2 : Int) := by have := HL.out; omega
    have d2 : (0 : Int) ≤ (k : Int) := by omega
    obtain ⟨b, off, rfl, hb, hc⟩ := evs_at (H.out.rd.below BL.out) hkl
    obtain ⟨b', off', rfl, hb', hc'⟩ := evs_at (H2.out.rd.below BL.out) hkm
    have LA := Lib.hid (rangeAt_old (cs := evL l[k]) hb (fun j v hv => hc j v hv))
    have LB := Lib.hid (rangeAt_old (cs := evL m[k]) hb' (fun j v hv => hc' j v hv))
    have HO := H.out.is l[k] (List.getElem_mem hkl)
    have HO' := H2.out.is m[k] (List.getElem_mem hkm)
    have SZ := H.out.sz l[k] (List.getElem_mem hkl)
    have SZ' := H2.out.sz m[k] (List.getElem_mem hkm)
    have HD : Hid (R = (sameE l[k].c m[k].c && all2 (fun a b => sameE a.c b.c) (l.drop (k + 1)) (m.drop (k + 1)))) := Lib.hid (HR.out.trans (all2_drop hkl hkm))
    clear HR hc hc'
    generalize l[k] = x at *
    generalize m[k] = y at *
    have SM : Hid (∀ u, OldB wr u → Calls Tryz.prog 116 #[.agg (evL x).toArray, .agg (evL y).toArray] u fun e w' => e = .returned (.bool (sameE x.c y.c)) ∧ Below u.heap.size u w') := Lib.hid (fun u hu => redit_any x y u (HO.below (BL.out.trans (Below.mono hu BL.out.size))) (HO'.below (BL.out.trans (Below.mono hu BL.out.size))) SZ SZ')
    clear HO HO' SZ SZ'
    have ZX : (Tryz.prog.info? 93).map (·.size) = some (evL x).length := by kernel_rfl
    have ZY : (Tryz.prog.info? 93).map (·.size) = some (evL y).length := by kernel_rfl
    generalize evL x = xs at *
    generalize evL y = ys at *
    generalize sameE x.c y.c = q at *
    go_wp2_with fail
    (refine wp_region_noPanic ?_; refine wp_region_held_drew (S := (OldB wr)) (by kernel_rfl) ?_ (fun hHeld => ?_); exact Below.drew (Below.refl _ _))
    (refine tkW 0 ?_; try simp only [gmS])
    (refine tkW 1 ?_; try simp only [gmS])
    (refine tkW 2 ?_; try simp only [gmS])
    (refine ldW 3 93 (.tmp 19) b (off + k * 15) xs _ LA.out Tryz.underlying93 ZX ?_; try simp only [gmS])
    (refine tkW 4 ?_; try simp only [gmS])
    (refine tkW 5 ?_; try simp only [gmS])
    (refine tkW 6 ?_; try simp only [gmS])
    (refine ldW 7 93 (.tmp 23) b' (off' + k * 15) ys _ LB.out Tryz.underlying93 ZY ?_; try simp only [gmS])
    (refine rdW 8 (fun K hK => ?_); go_simp)
    (with_reducible refine (SM.out _ hHeld).mono ?_)
    rintro e w1 ⟨rfl, b1⟩
    (refine hK.out _ _ (OldB.then hHeld b1) (fun hHeld2 => ?_); clear hK K hHeld; have hHeld := hHeld2; clear hHeld2; try simp only [gmS])
    (refine tkW 9 ?_; try simp only [gmS])
    have B1 := Lib.hid (BL.out.trans (Below.mono hHeld BL.out.size))
    (refine wpAnyH_done (by kernel_rfl) ?_ _; refine NoPanic.normal ?_)
    clear hHeld SM LA LB
    cases q
    ·have RF : Hid (R = false) := Lib.hid (by rw [HD.out, Bool.false_and])
     clear HD
     go_wp2_with fail
     go_ret
     exact ⟨by rw [RF.out]; rfl, B1.out⟩
    ·have R2 : Hid (R = all2 (fun a b => sameE a.c b.c) (l.drop (k + 1)) (m.drop (k + 1))) := Lib.hid (by rw [HD.out, Bool.true_and])
     clear HD
     go_wp2_with fail
     exact ⟨⟨k + 1, by omega, by go_num, R2, B1⟩, by simp [intOf]; omega⟩
   ·have d1 : ¬ (k : Int) < (n1 : Int) := by omega
    have RT : Hid (R = true) := Lib.hid (HR.out.trans (all2_end (by rw [← HN.out]; omega) (by rw [← HM.out, ← HL.out]; omega)))
    clear HR
    go_wp2_with fail
    go_ret
    exact ⟨by rw [RT.out]; rfl, BL.out⟩
 ·have hq : ((n1 : Int) != (n2 : Int)) = true := by simp; omega
  have RF : Hid (R = false) := Lib.hid (HR.out.symm.trans (all2_ne (by rw [← HN.out, ← HM.out]; exact hlen)))
  clear hlen HR
  go_enter Tryz.func70, Tryz.ntmps70
  go_wp2_with fail
  go_ret
  exact ⟨by rw [RF.out]; rfl, B0.out⟩
end Go.Proofs.YtniklmikdkjgiaaGreatDoor
