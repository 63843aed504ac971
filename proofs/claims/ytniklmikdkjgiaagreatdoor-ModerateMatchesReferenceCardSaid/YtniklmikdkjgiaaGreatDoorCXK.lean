import Derived.Test.YtniklmikdkjgiaaGreatDoorCXI
set_option linter.all false
set_option maxHeartbeats 16000000
set_option maxRecDepth 100000
namespace Go.Proofs.YtniklmikdkjgiaaGreatDoor
open Go.RowKit
theorem ints_at {w : World} {A : Option Addr} {l : List Int} (h : Rd w A (intsL l)) {k : Nat} (hk : k < l.length) :
  ∃ b off, A = some ⟨b, off, none⟩ ∧ b < w.heap.size ∧ w.cell? ⟨b, off + k, none⟩ = some (.int .i64 l[k]) := h.map_at (f := fun i => Value.int .i64 i) hk
theorem rsame_any (r s : RO) (w : World) (h : ObIs w r) (k : ObIs w s) (hr : ObSz r.c) (hs : ObSz s.c) :
  Calls Tryz.prog 144 #[roA r, roA s] w fun e w' => e = .returned (.bool (At.sameO r.c s.c)) ∧ Below w.heap.size w w' := by
 obtain ⟨⟨A1, c1, v1, r1⟩, ⟨A2, c2, v2, r2⟩⟩ := h
 obtain ⟨⟨A3, c3, v3, r3⟩, ⟨A4, c4, v4, r4⟩⟩ := k
 have SO : Hid (At.sameO r.c s.c = (decide (r.c.id = s.c.id) && decide (r.c.kind = s.c.kind) && decide (r.c.x = s.c.x) && decide (r.c.y = s.c.y) && decide (r.c.refs = s.c.refs) && decide (r.c.tags = s.c.tags))) := Lib.hid rfl
 have BB : Below w.heap.size w ((w.alloc (.cells #[.string (mkB r.c.id), .int .i64 r.c.kind, .int .i64 r.c.x, .int .i64 r.c.y, r.rv, r.tv] 91)).alloc (.cells #[.string (mkB s.c.id), .int .i64 s.c.kind, .int .i64 s.c.x, .int .i64 s.c.y, s.rv, s.tv] 91)) := ((Below.refl _ _).alloc (Nat.le_refl _) _).alloc (by simp) _
 have RR1 := Lib.hid r1
 have RR2 := Lib.hid r2
 have RR3 := Lib.hid r3
 have RR4 := Lib.hid r4
 have t1 := mkB_tl r.c.id
 have t2 := mkB_tl s.c.id
 unfold roA
 rw [v1, v2, v3, v4] at *
 clear r1 r2 r3 r4 v1 v2 v3 v4
 generalize At.sameO r.c s.c = R at *
 have zr := hr.refs
 have zs := hs.refs
 have zt := hr.tags
 have zu := hs.tags
 clear hr hs
 generalize r.c.refs = lr at *
 generalize s.c.refs = ls at *
 generalize r.c.tags = lt at *
 generalize s.c.tags = lu at *
 obtain ⟨n1, hn1⟩ : ∃ n, lr.length = n := ⟨_, rfl⟩
 obtain ⟨n3, hn3⟩ : ∃ n, ls.length = n := ⟨_, rfl⟩
 obtain ⟨n2, hn2⟩ : ∃ n, lt.length = n := ⟨_, rfl⟩
 obtain ⟨n4, hn4⟩ : ∃ n, lu.length = n := ⟨_, rfl⟩
 have N1 := Lib.hid hn1
 have N2 := Lib.hid hn2
 have N3 := Lib.hid hn3
 have N4 := Lib.hid hn4
 simp only [hn1, hn2, hn3, hn4] at BB zr zs zt zu ⊢
 clear hn1 hn2 hn3 hn4
 generalize r.c.id = a1 at *
 generalize r.c.kind = a2 at *
 generalize r.c.x = a3 at *
 generalize r.c.y = a4 at *
 generalize s.c.id = b1 at *
 generalize s.c.kind = b2 at *
 generalize s.c.x = b3 at *
 generalize s.c.y = b4 at *
 obtain ⟨W, hW⟩ : ∃ W, W = (w.alloc (.cells #[.string (mkB a1), .int .i64 a2, .int .i64 a3, .int .i64 a4, .slice A1 n1 c1, .slice A2 n2 c2] 91)).alloc (.cells #[.string (mkB b1), .int .i64 b2, .int .i64 b3, .int .i64 b4, .slice A3 n3 c3, .slice A4 n4 c4] 91) := ⟨_, rfl⟩
 have HX : Hid (W.heap[w.heap.size]? = some (.cells #[.string (mkB a1), .int .i64 a2, .int .i64 a3, .int .i64 a4, .slice A1 n1 c1, .slice A2 n2 c2] 91 (0, 0))) := Lib.hid (by rw [hW]; exact (alloc_old _ _ (by simp)).trans (heap_alloc_new w _))
 have HY : Hid (W.heap[w.heap.size + 1]? = some (.cells #[.string (mkB b1), .int .i64 b2, .int .i64 b3, .int .i64 b4, .slice A3 n3 c3, .slice A4 n4 c4] 91 (0, 0))) := Lib.hid (by rw [hW]; exact alloc_new' _ _ _ (by simp))
 have HZ : W.heap.size = w.heap.size + 2 := by rw [hW]; simp
 rw [← hW] at BB
 have BH := Lib.hid BB
 clear BB
 go_enter Tryz.func144, Tryz.ntmps144
 go_upto_region 1 with fail
 rw [← hW]
 clear hW
 have CF : Hid (∀ u, Below W.heap.size W u → (u.cell? ⟨w.heap.size, 0, none⟩ = some (.string (mkB a1)) ∧ u.cell? ⟨w.heap.size, 1, none⟩ = some (.int .i64 a2) ∧ u.cell? ⟨w.heap.size, 2, none⟩ = some (.int .i64 a3) ∧ u.cell? ⟨w.heap.size, 3, none⟩ = some (.int .i64 a4) ∧ u.cell? ⟨w.heap.size, 4, none⟩ = some (.slice A1 n1 c1) ∧ u.cell? ⟨w.heap.size, 5, none⟩ = some (.slice A2 n2 c2)) ∧ (u.cell? ⟨w.heap.size + 1, 0, none⟩ = some (.string (mkB b1)) ∧ u.cell? ⟨w.heap.size + 1, 1, none⟩ = some (.int .i64 b2) ∧ u.cell? ⟨w.heap.size + 1, 2, none⟩ = some (.int .i64 b3) ∧ u.cell? ⟨w.heap.size + 1, 3, none⟩ = some (.int .i64 b4) ∧ u.cell? ⟨w.heap.size + 1, 4, none⟩ = some (.slice A3 n3 c3) ∧ u.cell? ⟨w.heap.size + 1, 5, none⟩ = some (.slice A4 n4 c4))) := Lib.hid (fun u hu => by
  have h0 := (hu.block w.heap.size (by omega)).trans HX.out
  have h1 := (hu.block (w.heap.size + 1) (by omega)).trans HY.out
  exact ⟨⟨cell_of_row u _ 0 _ _ _ h0, cell_of_row u _ 1 _ _ _ h0, cell_of_row u _ 2 _ _ _ h0, cell_of_row u _ 3 _ _ _ h0, cell_of_row u _ 4 _ _ _ h0, cell_of_row u _ 5 _ _ _ h0⟩, ⟨cell_of_row u _ 0 _ _ _ h1, cell_of_row u _ 1 _ _ _ h1, cell_of_row u _ 2 _ _ _ h1, cell_of_row u _ 3 _ _ _ h1, cell_of_row u _ 4 _ _ _ h1, cell_of_row u _ 5 _ _ _ h1⟩⟩)
 obtain ⟨⟨w10, w11, w12, w13, w14, w15⟩, ⟨w20, w21, w22, w23, w24, w25⟩⟩ := CF.out W (Below.refl _ _)
 clear HX HY
 by_cases h1 : a1 = b1
 ·have e1 : (a1 == b1) = true := by rw [h1]; simp
  have e1' : (a1 != b1) = false := by rw [h1]; simp
  by_cases h2 : a2 = b2
  ·have e2 : (a2 != b2) = false := by rw [h2]; simp
   by_cases h3 : a3 = b3
   ·have e3 : (a3 == b3) = true := by rw [h3]; simp
    by_cases h4 : a4 = b4
    ·have e4 : (a4 == b4) = true := by rw [h4]; simp
     rw [decide_eq_true h1, decide_eq_true h2, decide_eq_true h3, decide_eq_true h4] at SO
     have S2 : Hid (R = (decide (lr = ls) && decide (lt = lu))) := Lib.hid SO.out
     clear SO h1 h2 h3 h4
     by_cases h5 : n1 = n3
     ·have e5 : ((n1 : Int) != (n3 : Int)) = false := by rw [h5]; simp
      have H5 := Lib.hid h5
      clear h5
      by_cases h6 : n2 = n4
      ·have e6 : ((n2 : Int) != (n4 : Int)) = false := by rw [h6]; simp
       have H6 := Lib.hid h6
       have B0 : Hid (Below W.heap.size W W) := Lib.hid (Below.refl _ _)
       clear h6
       go_wp2_with fail
       go_loopw [5] (fun i wr => ∃ k : Nat, k ≤ n1 ∧ i = .int .i64 (k : Int) ∧ Hid (∀ j (_ : j < k) (h : j < lr.length) (h' : j < ls.length), lr[j] = ls[j]) ∧ Hid (Below W.heap.size W wr)) (fun i _ => n1 - (intOf i).toNat)
       case atStart => exact ⟨0, Nat.zero_le _, rfl, Lib.hid (fun j h => absurd h (Nat.not_lt_zero _)), B0⟩
       case round =>
        clear B0 w10 w11 w12 w13 w14 w15 w20 w21 w22 w23 w24 w25 t1 t2 e1 e1' e2 e3 e4 e5 e6
        obtain ⟨k, hk, rfl, AL, BL⟩ := hrel
        obtain ⟨⟨w10, w11, w12, w13, w14, w15⟩, ⟨w20, w21, w22, w23, w24, w25⟩⟩ := CF.out wr BL.out
        have BL2 := Lib.hid (BH.out.trans (Below.mono BL.out BH.out.size))
        by_cases hlt : k < n1
        ·have hkl : k < lr.length := by rw [N1.out]; exact hlt
         have hkm : k < ls.length := by rw [N3.out, ← H5.out]; exact hlt
         have d1 : (k : Int) < (n1 : Int) := by omega
         have d3 : (k : Int) < (n3 : Int) := by have := H5.out; omega
         have d2 : (0 : Int) ≤ (k : Int) := by omega
         obtain ⟨b, off, rfl, hb, c0⟩ := strs_at (RR1.out.below BL2.out) hkl
         obtain ⟨b', off', rfl, hb', c0'⟩ := strs_at (RR3.out.below BL2.out) hkm
         have ALn : Hid (lr[k] = ls[k] → ∀ j (_ : j < k + 1) (h : j < lr.length) (h' : j < ls.length), lr[j] = ls[j]) := Lib.hid (fun hc j hj h h' => by
          rcases Nat.lt_succ_iff_lt_or_eq.1 hj with h1 | h1
          ·exact AL.out j h1 h h'
          ·subst h1; exact hc)
         have NE : Hid (lr[k] ≠ ls[k] → R = false) := Lib.hid (fun hc => by rw [S2.out, decide_eq_false (list_ne_at hkl hkm hc)]; rfl)
         have q1 := mkB_tl lr[k]
         have q2 := mkB_tl ls[k]
         generalize lr[k] = x at *
         generalize ls[k] = y at *
         by_cases he : x = y
         ·have f1 : (x == y) = true := by rw [he]; simp
          have f2 : (x != y) = false := by rw [he]; simp
          have A2' := Lib.hid (ALn.out he)
          clear ALn NE he
          go_wp2_with fail
          go_quiet (fail)
          go_wp2_with fail
          exact ⟨⟨k + 1, by omega, by go_num, A2', Lib.hid (belowNN BL.out _)⟩, by simp [intOf]; omega⟩
         ·have f1 : (x == y) = false := by simpa using he
          have f2 : (x != y) = true := by simpa using he
          have A2' := Lib.hid (NE.out he)
          clear ALn NE he
          go_wp2_with fail
          go_quiet (fail)
          go_wp2_with fail
          go_ret
          exact ⟨by rw [A2'.out]; rfl, belowNN BL2.out _⟩
        ·have d1 : ¬ (k : Int) < (n1 : Int) := by omega
         have S3 : Hid (R = decide (lt = lu)) := Lib.hid (by
          rw [S2.out, decide_eq_true (List.ext_getElem (by rw [N1.out, N3.out, H5.out]) (fun j h h' => AL.out j (by have := N1.out; omega) h h'))]; rfl)
         clear AL S2
         go_wp2_with fail
         go_loopw [6] (fun i wq => ∃ j : Nat, j ≤ n2 ∧ i = .int .i64 (j : Int) ∧ Hid (∀ i (_ : i < j) (h : i < lt.length) (h' : i < lu.length), lt[i] = lu[i]) ∧ Hid (Below W.heap.size W wq)) (fun i _ => n2 - (intOf i).toNat)
         case atStart => exact ⟨0, Nat.zero_le _, rfl, Lib.hid (fun j h => absurd h (Nat.not_lt_zero _)), BL⟩
         case round =>
          clear BL w10 w11 w12 w13 w14 w15 w20 w21 w22 w23 w24 w25 BL2
          obtain ⟨j, hj, rfl, AL, BL⟩ := hrel
          obtain ⟨⟨w10, w11, w12, w13, w14, w15⟩, ⟨w20, w21, w22, w23, w24, w25⟩⟩ := CF.out wr BL.out
          have BL2 := Lib.hid (BH.out.trans (Below.mono BL.out BH.out.size))
          by_cases hltj : j < n2
          ·have hkl : j < lt.length := by rw [N2.out]; exact hltj
           have hkm : j < lu.length := by rw [N4.out, ← H6.out]; exact hltj
           have d4 : (j : Int) < (n2 : Int) := by omega
           have d5 : (j : Int) < (n4 : Int) := by have := H6.out; omega
           have d6 : (0 : Int) ≤ (j : Int) := by omega
           obtain ⟨b, off, rfl, hb, g0, g1⟩ := tags_at (RR2.out.below BL2.out) hkl
           obtain ⟨b', off', rfl, hb', g2, g3⟩ := tags_at (RR4.out.below BL2.out) hkm
           have ALn : Hid (lt[j] = lu[j] → ∀ i (_ : i < j + 1) (h : i < lt.length) (h' : i < lu.length), lt[i] = lu[i]) := Lib.hid (fun hc i hi h h' => by
            rcases Nat.lt_succ_iff_lt_or_eq.1 hi with h1 | h1
            ·exact AL.out i h1 h h'
            ·subst h1; exact hc)
           have NE : Hid (lt[j] ≠ lu[j] → R = false) := Lib.hid (fun hc => by rw [S3.out, decide_eq_false (list_ne_at hkl hkm hc)])
           have q1 := mkB_tl lt[j].1
           have q2 := mkB_tl lu[j].1
           have q3 := mkB_tl lt[j].2
           have q4 := mkB_tl lu[j].2
           have EE : Hid (lt[j] = lu[j] ↔ lt[j].1 = lu[j].1 ∧ lt[j].2 = lu[j].2) := Lib.hid Prod.ext_iff
           generalize lt[j] = x at *
           generalize lu[j] = y at *
           obtain ⟨x1, x2⟩ := x
           obtain ⟨y1, y2⟩ := y
           dsimp only at q1 q2 q3 q4 g0 g1 g2 g3 EE
           by_cases h1 : x1 = y1
           ·have f1 : (x1 == y1) = true := by rw [h1]; simp
            by_cases h2 : x2 = y2
            ·have f2 : (x2 == y2) = true := by rw [h2]; simp
             have A2' := Lib.hid (ALn.out (EE.out.2 ⟨h1, h2⟩))
             clear ALn NE EE h1 h2
             go_wp2_with fail
             go_quiet (fail)
             go_wp2_with fail
             exact ⟨⟨j + 1, by omega, by go_num, A2', Lib.hid (belowNN BL.out _)⟩, by simp [intOf]; omega⟩
            ·have f2 : (x2 == y2) = false := by simpa using h2
             have A2' := Lib.hid (NE.out (fun e => h2 (EE.out.1 e).2))
             clear ALn NE EE h1 h2
             go_wp2_with fail
             go_quiet (fail)
             go_wp2_with fail
             go_ret
             exact ⟨by rw [A2'.out]; rfl, belowNN BL2.out _⟩
           ·have f1 : (x1 == y1) = false := by simpa using h1
            have A2' := Lib.hid (NE.out (fun e => h1 (EE.out.1 e).1))
            clear ALn NE EE h1
            go_wp2_with fail
            go_quiet (fail)
            go_wp2_with fail
            go_ret
            exact ⟨by rw [A2'.out]; rfl, belowNN BL2.out _⟩
          ·have d4 : ¬ (j : Int) < (n2 : Int) := by omega
           have RT : Hid (R = true) := Lib.hid (by
            rw [S3.out]
            exact decide_eq_true (List.ext_getElem (by rw [N2.out, N4.out, H6.out]) (fun i h h' => AL.out i (by have := N2.out; omega) h h')))
           clear AL
           go_wp2_with fail
           go_ret
           exact ⟨by rw [RT.out]; rfl, BL2.out⟩
      ·have e6 : ((n2 : Int) != (n4 : Int)) = true := by simp; omega
       have S3 : Hid (R = false) := Lib.hid (by rw [S2.out, decide_eq_false (show ¬ lt = lu from fun e => h6 (by rw [← N2.out, ← N4.out, e]))]; simp)
       clear h6
       go_wp2_with fail
       go_ret
       exact ⟨by rw [S3.out]; rfl, BH.out⟩
     ·have e5 : ((n1 : Int) != (n3 : Int)) = true := by simp; omega
      have S3 : Hid (R = false) := Lib.hid (by rw [S2.out, decide_eq_false (show ¬ lr = ls from fun e => h5 (by rw [← N1.out, ← N3.out, e]))]; rfl)
      clear h5
      go_wp2_with fail
      go_ret
      exact ⟨by rw [S3.out]; rfl, BH.out⟩
    ·have e4 : (a4 == b4) = false := by simpa using h4
     have S3 : Hid (R = false) := Lib.hid (by rw [SO.out, decide_eq_false h4]; simp)
     clear SO h1 h2 h3 h4
     go_wp2_with fail
     go_ret
     exact ⟨by rw [S3.out]; rfl, BH.out⟩
   ·have e3 : (a3 == b3) = false := by simpa using h3
    have S3 : Hid (R = false) := Lib.hid (by rw [SO.out, decide_eq_false h3]; simp)
    clear SO h1 h2 h3
    go_wp2_with fail
    go_ret
    exact ⟨by rw [S3.out]; rfl, BH.out⟩
  ·have e2 : (a2 != b2) = true := by simpa using h2
   have S3 : Hid (R = false) := Lib.hid (by rw [SO.out, decide_eq_false h2]; simp)
   clear SO h1 h2
   go_wp2_with fail
   go_ret
   exact ⟨by rw [S3.out]; rfl, BH.out⟩
 ·have e1 : (a1 == b1) = false := by simpa using h1
  have e1' : (a1 != b1) = true := by simpa using h1
  have S3 : Hid (R = false) := Lib.hid (by rw [SO.out, decide_eq_false h1]; simp)
  clear SO h1
  go_wp2_with fail
  go_ret
  exact ⟨by rw [S3.out]; rfl, BH.out⟩
end Go.Proofs.YtniklmikdkjgiaaGreatDoor
namespace Go.Proofs.YtniklmikdkjgiaaGreatDoor
open Go.RowKit
end Go.Proofs.YtniklmikdkjgiaaGreatDoor
namespace Go.Proofs.YtniklmikdkjgiaaGreatDoor
open Go.RowKit
end Go.Proofs.YtniklmikdkjgiaaGreatDoor
