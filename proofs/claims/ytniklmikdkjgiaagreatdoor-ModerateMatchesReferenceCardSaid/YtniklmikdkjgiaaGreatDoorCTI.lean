import Derived.Test.YtniklmikdkjgiaaGreatDoorCTH
import Derived.Test.YtniklmikdkjgiaaGreatDoorWD
set_option linter.all false
set_option maxHeartbeats 16000000
set_option maxRecDepth 100000
namespace Go.Proofs.YtniklmikdkjgiaaGreatDoor
open Go.RowKit
theorem own27_any (r : RV) (w : World) (h : RvIs w r) (hs : RcSz r.c) :
  Calls Tryz.prog 134 #[rvA r] w fun en w' => en = .returned (.bool (own27 r.c)) ∧ Below w.heap.size w w' := by
 obtain ⟨Ae, ce, ve, he⟩ := h.ed
 obtain ⟨ne, hne⟩ : ∃ n, n = r.edits.length := ⟨_, rfl⟩
 unfold rvA
 obtain ⟨X, hX⟩ : ∃ X, X = w.alloc (.cells (rvL r).toArray 56) := ⟨_, rfl⟩
 obtain ⟨bx, hbx⟩ : ∃ bx, w.heap.size = bx := ⟨_, rfl⟩
 have BX : Below w.heap.size w X := by rw [hX]; exact (Below.refl _ _).alloc (Nat.le_refl _) _
 have XX : X.heap[bx]? = some (.cells (rvL r).toArray 56 (0, 0)) := by rw [hX, ← hbx]; exact heap_alloc_new w _
 have RX : ∀ u, OldB X u → u.rangeAt bx 0 (rvL r) := fun u hu => by have := range_of_row ((hu.block bx (lt_of_block XX)).trans XX); simpa using this
 have OX : OldB X X := Below.refl _ _
 have c0 : ∀ u, OldB X u → u.cell? ⟨bx, 0, none⟩ = some (.int .i64 r.kind) := fun u hu => by have := RX u hu 0 _ rfl; simpa using this
 have c4 : ∀ u, OldB X u → u.cell? ⟨bx, 4, none⟩ = some (.string (mkB r.branch)) := fun u hu => by have := RX u hu 4 _ rfl; simpa using this
 have c6 : ∀ u, OldB X u → u.cell? ⟨bx, 6, none⟩ = some (.slice Ae ne ce) := fun u hu => by have := RX u hu 6 _ rfl; rw [hne, ← ve]; simpa using this
 have c7 : ∀ u, OldB X u → u.cell? ⟨bx, 7, none⟩ = some (.string (mkB r.target)) := fun u hu => by have := RX u hu 7 _ rfl; simpa using this
 have c8 : ∀ u, OldB X u → u.cell? ⟨bx, 8, none⟩ = some (.bool r.yes) := fun u hu => by have := RX u hu 8 _ rfl; simpa using this
 have c9 : ∀ u, OldB X u → u.cell? ⟨bx, 9, none⟩ = some (.int .i64 r.order) := fun u hu => by have := RX u hu 9 _ rfl; simpa using this
 have c10 : ∀ u, OldB X u → u.cell? ⟨bx, 10, none⟩ = some (.string (mkB r.frm)) := fun u hu => by have := RX u hu 10 _ rfl; simpa using this
 have TX := Lib.hid (rt22_any Ae ne ce r.edits X hne (he.below BX))
 have IS := Lib.hid (fun u => isd_any r.target u hs.target)
 have NM := Lib.hid (fun u => rname_any r.frm u (Nat.le_trans hs.frm (by decide)))
 have LE : (edsC r.edits).length = ne := by unfold edsC; rw [List.length_map, hne]
 have BH := Lib.hid BX
 have X0 := Lib.hid hX
 have X1 := Lib.hid hbx
 have te : (ByteArray.mk #[]).toList = [] := mkB_tl []
 have tt := mkB_tl r.target
 have tf := mkB_tl r.frm
 have tb := mkB_tl r.branch
 have w1 : ∀ (h : r.kind = 1), Hid (own27 r.c = (decide ((changeTextF (edsC r.edits)).2 = 0) && (decide (r.target = []) && (decide (r.order = 0) && (decide (r.frm = []) && !r.yes))))) := fun h => Lib.hid (own_1 (c := r.c) h)
 have w2 : ∀ (h : r.kind = 2), Hid (own27 r.c = (decide (ne = 0) && (Dg.isD r.target && (decide (r.order = 0) && (decide (r.frm = []) && true))))) := fun h => Lib.hid (by rw [own_2 (c := r.c) h, ← LE]; rfl)
 have w3a : ∀ (h : r.kind = 3) (ho : r.order = 3), Hid (own27 r.c = (decide ((changeTextF (edsC r.edits)).2 = 0) && (Dg.isD r.target && (decide (r.frm = []) && !r.yes)))) := fun h ho => Lib.hid (own_3a (c := r.c) h ho)
 have w3b : ∀ (h : r.kind = 3) (ho : ¬ r.order = 3), Hid (own27 r.c = (decide (ne = 0) && (Dg.isD r.target && ((decide (1 ≤ r.order) && decide (r.order ≤ 4)) && (decide (r.frm = []) && !r.yes))))) := fun h ho => Lib.hid (by rw [own_3b (c := r.c) h ho, ← LE]; rfl)
 have w4 : ∀ (h : r.kind = 4), Hid (own27 r.c = (decide (ne = 0) && (decide (r.target = []) && (decide (r.order = 0) && ((At.nameB r.frm && !decide (r.frm = r.branch)) && !r.yes))))) := fun h => Lib.hid (by rw [own_4 (c := r.c) h, ← LE]; rfl)
 have w0 : ∀ (h1 : ¬ r.kind = 1) (h2 : ¬ r.kind = 2) (h3 : ¬ r.kind = 3) (h4 : ¬ r.kind = 4), Hid (own27 r.c = (decide (ne = 0) && (decide (r.target = []) && (decide (r.order = 0) && (decide (r.frm = []) && !r.yes))))) := fun h1 h2 h3 h4 => Lib.hid (by rw [own_0 (c := r.c) h1 h2 h3 h4, ← LE]; rfl)
 generalize own27 r.c = R at *
 clear h hs he ve hne LE hX hbx BX XX RX
 go_enter Tryz.func134, Tryz.ntmps134
 go_upto_region 1 with fail
 rw [← X0.out, X1.out]
 clear X0 X1
 by_cases h1 : r.kind = 1
 ·skip
  have e1 : (r.kind == 1) = true := by rw [h1]; rfl
  have f1 : (r.kind != 1) = false := by rw [h1]; rfl
  have e2 : (r.kind == 2) = false := by rw [h1]; rfl
  have f2 : (r.kind != 2) = true := by rw [h1]; rfl
  have e3 : (r.kind == 3) = false := by rw [h1]; rfl
  have f3 : (r.kind != 3) = true := by rw [h1]; rfl
  have e4 : (r.kind == 4) = false := by rw [h1]; rfl
  have f4 : (r.kind != 4) = true := by rw [h1]; rfl
  have FW := w1 h1
  clear h1
  have FE := FW
  clear w0 w1 w2 w3a w3b w4
  have y0 := c0 X OX
  have y4 := c4 X OX
  have y6 := c6 X OX
  have y7 := c7 X OX
  have y8 := c8 X OX
  have y9 := c9 X OX
  have y10 := c10 X OX
  go_wp2_with fail
  (with_reducible refine TX.out.mono ?_)
  rintro en u1 ⟨rfl, b1⟩
  have O1 : OldB X u1 := b1
  have B1 := Lib.hid (BH.out.trans (b1.mono BH.out.size))
  clear b1 TX y0 y4 y6 y7 y8 y9 y10
  generalize (changeTextF (edsC r.edits)).1 = tq at *
  generalize (changeTextF (edsC r.edits)).2 = q at *
  have y0 := c0 u1 O1
  have y4 := c4 u1 O1
  have y6 := c6 u1 O1
  have y7 := c7 u1 O1
  have y8 := c8 u1 O1
  have y9 := c9 u1 O1
  have y10 := c10 u1 O1
  by_cases h : q = 0
  rotate_left
  ·have g1 : ((q : Int) == 0) = false := by simpa using h
   have g2 : ((q : Int) != 0) = true := by simpa using h
   have PF : Hid (R = false) := Lib.hid (by rw [FE.out, decide_eq_false h]; simp)
   clear h FE
   go_wp2_with fail
   go_ret
   exact ⟨by rw [PF.out]; rfl, B1.out⟩
  have g1 : ((q : Int) == 0) = true := by rw [h]; rfl
  have k1 : ((q : Int) != 0) = false := by rw [h]; rfl
  have FE := Lib.hid (FE.out.trans (by rw [decide_eq_true h, Bool.true_and]))
  clear h
  by_cases h : r.target = []
  rotate_left
  ·have g1 : (r.target == []) = false := by simpa using h
   have g2 : (r.target != []) = true := by simpa using h
   have PF : Hid (R = false) := Lib.hid (by rw [FE.out, decide_eq_false h]; simp)
   clear h FE
   go_wp2_with fail
   go_ret
   exact ⟨by rw [PF.out]; rfl, B1.out⟩
  have g2 : (r.target == []) = true := by rw [h]; rfl
  have k2 : (r.target != []) = false := by rw [h]; rfl
  have FE := Lib.hid (FE.out.trans (by rw [decide_eq_true h, Bool.true_and]))
  clear h
  by_cases h : r.order = 0
  rotate_left
  ·have g1 : (r.order == 0) = false := by simpa using h
   have g2 : (r.order != 0) = true := by simpa using h
   have PF : Hid (R = false) := Lib.hid (by rw [FE.out, decide_eq_false h]; simp)
   clear h FE
   go_wp2_with fail
   go_ret
   exact ⟨by rw [PF.out]; rfl, B1.out⟩
  have g3 : (r.order == 0) = true := by rw [h]; rfl
  have k3 : (r.order != 0) = false := by rw [h]; rfl
  have FE := Lib.hid (FE.out.trans (by rw [decide_eq_true h, Bool.true_and]))
  clear h
  by_cases h : r.frm = []
  rotate_left
  ·have g1 : (r.frm == []) = false := by simpa using h
   have g2 : (r.frm != []) = true := by simpa using h
   have PF : Hid (R = false) := Lib.hid (by rw [FE.out, decide_eq_false h]; simp)
   clear h FE
   go_wp2_with fail
   go_ret
   exact ⟨by rw [PF.out]; rfl, B1.out⟩
  have g4 : (r.frm == []) = true := by rw [h]; rfl
  have k4 : (r.frm != []) = false := by rw [h]; rfl
  have FE := Lib.hid (FE.out.trans (by rw [decide_eq_true h, Bool.true_and]))
  clear h
  generalize r.yes = ye at *
  go_wp2_with fail
  go_ret
  exact ⟨by rw [FE.out]; rfl, B1.out⟩
 by_cases h2 : r.kind = 2
 ·skip
  have e1 : (r.kind == 1) = false := by rw [h2]; rfl
  have f1 : (r.kind != 1) = true := by rw [h2]; rfl
  have e2 : (r.kind == 2) = true := by rw [h2]; rfl
  have f2 : (r.kind != 2) = false := by rw [h2]; rfl
  have e3 : (r.kind == 3) = false := by rw [h2]; rfl
  have f3 : (r.kind != 3) = true := by rw [h2]; rfl
  have e4 : (r.kind == 4) = false := by rw [h2]; rfl
  have f4 : (r.kind != 4) = true := by rw [h2]; rfl
  have FW := w2 h2
  clear h1 h2
  have FE := FW
  clear w0 w1 w2 w3a w3b w4
  have y0 := c0 X OX
  have y4 := c4 X OX
  have y6 := c6 X OX
  have y7 := c7 X OX
  have y8 := c8 X OX
  have y9 := c9 X OX
  have y10 := c10 X OX
  by_cases h : ne = 0
  rotate_left
  ·have g1 : (0 : Int) < (ne : Int) := by omega
   have g2 : decide ((0 : Int) < (ne : Int)) = true := decide_eq_true g1
   have PF : Hid (R = false) := Lib.hid (by rw [FE.out, decide_eq_false h]; simp)
   clear h FE
   go_wp2_with fail
   go_ret
   exact ⟨by rw [PF.out]; rfl, BH.out⟩
  have g5 : ¬ (0 : Int) < (ne : Int) := by omega
  have k5 : decide ((0 : Int) < (ne : Int)) = false := decide_eq_false g5
  have FE := Lib.hid (FE.out.trans (by rw [decide_eq_true h, Bool.true_and]))
  clear h
  go_wp2_with fail
  (with_reducible refine (IS.out _).mono ?_)
  rintro en u2 ⟨rfl, rfl⟩
  generalize Dg.isD r.target = qd at *
  cases qd
  ·have PF : Hid (R = false) := Lib.hid (by rw [FE.out]; simp)
   clear FE
   go_wp2_with fail
   go_ret
   exact ⟨by rw [PF.out]; rfl, BH.out⟩
  have FE := Lib.hid (FE.out.trans (Bool.true_and _))
  by_cases h : r.order = 0
  rotate_left
  ·have g1 : (r.order == 0) = false := by simpa using h
   have g2 : (r.order != 0) = true := by simpa using h
   have PF : Hid (R = false) := Lib.hid (by rw [FE.out, decide_eq_false h]; simp)
   clear h FE
   go_wp2_with fail
   go_ret
   exact ⟨by rw [PF.out]; rfl, BH.out⟩
  have g7 : (r.order == 0) = true := by rw [h]; rfl
  have k7 : (r.order != 0) = false := by rw [h]; rfl
  have FE := Lib.hid (FE.out.trans (by rw [decide_eq_true h, Bool.true_and]))
  clear h
  by_cases h : r.frm = []
  rotate_left
  ·have g1 : (r.frm == []) = false := by simpa using h
   have g2 : (r.frm != []) = true := by simpa using h
   have PF : Hid (R = false) := Lib.hid (by rw [FE.out, decide_eq_false h]; simp)
   clear h FE
   go_wp2_with fail
   go_ret
   exact ⟨by rw [PF.out]; rfl, BH.out⟩
  have g8 : (r.frm == []) = true := by rw [h]; rfl
  have k8 : (r.frm != []) = false := by rw [h]; rfl
  have FE := Lib.hid (FE.out.trans (by rw [decide_eq_true h, Bool.true_and]))
  clear h
  generalize r.yes = ye at *
  go_wp2_with fail
  go_ret
  exact ⟨by rw [FE.out]; rfl, BH.out⟩
 by_cases h3 : r.kind = 3
 ·skip
  have e1 : (r.kind == 1) = false := by rw [h3]; rfl
  have f1 : (r.kind != 1) = true := by rw [h3]; rfl
  have e2 : (r.kind == 2) = false := by rw [h3]; rfl
  have f2 : (r.kind != 2) = true := by rw [h3]; rfl
  have e3 : (r.kind == 3) = true := by rw [h3]; rfl
  have f3 : (r.kind != 3) = false := by rw [h3]; rfl
  have e4 : (r.kind == 4) = false := by rw [h3]; rfl
  have f4 : (r.kind != 4) = true := by rw [h3]; rfl
  by_cases ho : r.order = 3
  ·skip
   have FW := w3a h3 ho
   have eo : (r.order == 3) = true := by rw [ho]; rfl
   have o1 : ¬ r.order < 1 := by omega
   have o4 : ¬ 4 < r.order := by omega
   have o1d : decide (r.order < 1) = false := decide_eq_false o1
   have o4d : decide (4 < r.order) = false := decide_eq_false o4
   clear h1 h2 h3 ho
   have FE := FW
   clear w0 w1 w2 w3a w3b w4
   have y0 := c0 X OX
   have y4 := c4 X OX
   have y6 := c6 X OX
   have y7 := c7 X OX
   have y8 := c8 X OX
   have y9 := c9 X OX
   have y10 := c10 X OX
   go_wp2_with fail
   (with_reducible refine TX.out.mono ?_)
   rintro en u1 ⟨rfl, b1⟩
   have O1 : OldB X u1 := b1
   have B1 := Lib.hid (BH.out.trans (b1.mono BH.out.size))
   clear b1 TX y0 y4 y6 y7 y8 y9 y10
   generalize (changeTextF (edsC r.edits)).1 = tq at *
   generalize (changeTextF (edsC r.edits)).2 = q at *
   have y0 := c0 u1 O1
   have y4 := c4 u1 O1
   have y6 := c6 u1 O1
   have y7 := c7 u1 O1
   have y8 := c8 u1 O1
   have y9 := c9 u1 O1
   have y10 := c10 u1 O1
   by_cases h : q = 0
   rotate_left
   ·have g1 : ((q : Int) == 0) = false := by simpa using h
    have g2 : ((q : Int) != 0) = true := by simpa using h
    have PF : Hid (R = false) := Lib.hid (by rw [FE.out, decide_eq_false h]; simp)
    clear h FE
    go_wp2_with fail
    go_ret
    exact ⟨by rw [PF.out]; rfl, B1.out⟩
   have g9 : ((q : Int) == 0) = true := by rw [h]; rfl
   have k9 : ((q : Int) != 0) = false := by rw [h]; rfl
   have FE := Lib.hid (FE.out.trans (by rw [decide_eq_true h, Bool.true_and]))
   clear h
   go_wp2_with fail
   (with_reducible refine (IS.out _).mono ?_)
   rintro en u2 ⟨rfl, rfl⟩
   generalize Dg.isD r.target = qd at *
   cases qd
   ·have PF : Hid (R = false) := Lib.hid (by rw [FE.out]; simp)
    clear FE
    go_wp2_with fail
    go_ret
    exact ⟨by rw [PF.out]; rfl, B1.out⟩
   have FE := Lib.hid (FE.out.trans (Bool.true_and _))
   by_cases h : r.frm = []
   rotate_left
   ·have g1 : (r.frm == []) = false := by simpa using h
    have g2 : (r.frm != []) = true := by simpa using h
    have PF : Hid (R = false) := Lib.hid (by rw [FE.out, decide_eq_false h]; simp)
    clear h FE
    go_wp2_with fail
    go_ret
    exact ⟨by rw [PF.out]; rfl, B1.out⟩
   have g11 : (r.frm == []) = true := by rw [h]; rfl
   have k11 : (r.frm != []) = false := by rw [h]; rfl
   have FE := Lib.hid (FE.out.trans (by rw [decide_eq_true h, Bool.true_and]))
   clear h
   generalize r.yes = ye at *
   go_wp2_with fail
   go_ret
   exact ⟨by rw [FE.out]; rfl, B1.out⟩
  ·skip
   have FW := w3b h3 ho
   have eo : (r.order == 3) = false := by simpa using ho
   clear h1 h2 h3 ho
   have FE := FW
   clear w0 w1 w2 w3a w3b w4
   have y0 := c0 X OX
   have y4 := c4 X OX
   have y6 := c6 X OX
   have y7 := c7 X OX
   have y8 := c8 X OX
   have y9 := c9 X OX
   have y10 := c10 X OX
   by_cases h : ne = 0
   rotate_left
   ·have g1 : (0 : Int) < (ne : Int) := by omega
    have g2 : decide ((0 : Int) < (ne : Int)) = true := decide_eq_true g1
    have PF : Hid (R = false) := Lib.hid (by rw [FE.out, decide_eq_false h]; simp)
    clear h FE
    go_wp2_with fail
    go_ret
    exact ⟨by rw [PF.out]; rfl, BH.out⟩
   have g12 : ¬ (0 : Int) < (ne : Int) := by omega
   have k12 : decide ((0 : Int) < (ne : Int)) = false := decide_eq_false g12
   have FE := Lib.hid (FE.out.trans (by rw [decide_eq_true h, Bool.true_and]))
   clear h
   go_wp2_with fail
   (with_reducible refine (IS.out _).mono ?_)
   rintro en u2 ⟨rfl, rfl⟩
   generalize Dg.isD r.target = qd at *
   cases qd
   ·have PF : Hid (R = false) := Lib.hid (by rw [FE.out]; simp)
    clear FE
    go_wp2_with fail
    go_ret
    exact ⟨by rw [PF.out]; rfl, BH.out⟩
   have FE := Lib.hid (FE.out.trans (Bool.true_and _))
   have FE := Lib.hid (FE.out.trans (Bool.and_assoc _ _ _))
   by_cases h : 1 ≤ r.order
   rotate_left
   ·have g1 : r.order < 1 := by omega
    have g2 : decide (r.order < 1) = true := decide_eq_true g1
    have PF : Hid (R = false) := Lib.hid (by rw [FE.out, decide_eq_false h]; simp)
    clear h FE
    go_wp2_with fail
    go_ret
    exact ⟨by rw [PF.out]; rfl, BH.out⟩
   have g14 : ¬ r.order < 1 := by omega
   have k14 : decide (r.order < 1) = false := decide_eq_false g14
   have FE := Lib.hid (FE.out.trans (by rw [decide_eq_true h, Bool.true_and]))
   clear h
   by_cases h : r.order ≤ 4
   rotate_left
   ·have g1 : 4 < r.order := by omega
    have g2 : decide (4 < r.order) = true := decide_eq_true g1
    have PF : Hid (R = false) := Lib.hid (by rw [FE.out, decide_eq_false h]; simp)
    clear h FE
    go_wp2_with fail
    go_ret
    exact ⟨by rw [PF.out]; rfl, BH.out⟩
   have g15 : ¬ 4 < r.order := by omega
   have k15 : decide (4 < r.order) = false := decide_eq_false g15
   have FE := Lib.hid (FE.out.trans (by rw [decide_eq_true h, Bool.true_and]))
   clear h
   by_cases h : r.frm = []
   rotate_left
   ·have g1 : (r.frm == []) = false := by simpa using h
    have g2 : (r.frm != []) = true := by simpa using h
    have PF : Hid (R = false) := Lib.hid (by rw [FE.out, decide_eq_false h]; simp)
    clear h FE
    go_wp2_with fail
    go_ret
    exact ⟨by rw [PF.out]; rfl, BH.out⟩
   have g16 : (r.frm == []) = true := by rw [h]; rfl
   have k16 : (r.frm != []) = false := by rw [h]; rfl
   have FE := Lib.hid (FE.out.trans (by rw [decide_eq_true h, Bool.true_and]))
   clear h
   generalize r.yes = ye at *
   go_wp2_with fail
   go_ret
   exact ⟨by rw [FE.out]; rfl, BH.out⟩
 by_cases h4 : r.kind = 4
 ·skip
  have e1 : (r.kind == 1) = false := by rw [h4]; rfl
  have f1 : (r.kind != 1) = true := by rw [h4]; rfl
  have e2 : (r.kind == 2) = false := by rw [h4]; rfl
  have f2 : (r.kind != 2) = true := by rw [h4]; rfl
  have e3 : (r.kind == 3) = false := by rw [h4]; rfl
  have f3 : (r.kind != 3) = true := by rw [h4]; rfl
  have e4 : (r.kind == 4) = true := by rw [h4]; rfl
  have f4 : (r.kind != 4) = false := by rw [h4]; rfl
  have FW := w4 h4
  clear h1 h2 h3 h4
  have FE := FW
  clear w0 w1 w2 w3a w3b w4
  have y0 := c0 X OX
  have y4 := c4 X OX
  have y6 := c6 X OX
  have y7 := c7 X OX
  have y8 := c8 X OX
  have y9 := c9 X OX
  have y10 := c10 X OX
  by_cases h : ne = 0
  rotate_left
  ·have g1 : (0 : Int) < (ne : Int) := by omega
   have g2 : decide ((0 : Int) < (ne : Int)) = true := decide_eq_true g1
   have PF : Hid (R = false) := Lib.hid (by rw [FE.out, decide_eq_false h]; simp)
   clear h FE
   go_wp2_with fail
   go_ret
   exact ⟨by rw [PF.out]; rfl, BH.out⟩
  have g17 : ¬ (0 : Int) < (ne : Int) := by omega
  have k17 : decide ((0 : Int) < (ne : Int)) = false := decide_eq_false g17
  have FE := Lib.hid (FE.out.trans (by rw [decide_eq_true h, Bool.true_and]))
  clear h
  by_cases h : r.target = []
  rotate_left
  ·have g1 : (r.target == []) = false := by simpa using h
   have g2 : (r.target != []) = true := by simpa using h
   have PF : Hid (R = false) := Lib.hid (by rw [FE.out, decide_eq_false h]; simp)
   clear h FE
   go_wp2_with fail
   go_ret
   exact ⟨by rw [PF.out]; rfl, BH.out⟩
  have g18 : (r.target == []) = true := by rw [h]; rfl
  have k18 : (r.target != []) = false := by rw [h]; rfl
  have FE := Lib.hid (FE.out.trans (by rw [decide_eq_true h, Bool.true_and]))
  clear h
  by_cases h : r.order = 0
  rotate_left
  ·have g1 : (r.order == 0) = false := by simpa using h
   have g2 : (r.order != 0) = true := by simpa using h
   have PF : Hid (R = false) := Lib.hid (by rw [FE.out, decide_eq_false h]; simp)
   clear h FE
   go_wp2_with fail
   go_ret
   exact ⟨by rw [PF.out]; rfl, BH.out⟩
  have g19 : (r.order == 0) = true := by rw [h]; rfl
  have k19 : (r.order != 0) = false := by rw [h]; rfl
  have FE := Lib.hid (FE.out.trans (by rw [decide_eq_true h, Bool.true_and]))
  clear h
  have FE := Lib.hid (FE.out.trans (Bool.and_assoc _ _ _))
  go_wp2_with fail
  (with_reducible refine (NM.out _).mono ?_)
  rintro en u2 ⟨rfl, rfl⟩
  generalize At.nameB r.frm = qd at *
  cases qd
  ·have PF : Hid (R = false) := Lib.hid (by rw [FE.out]; simp)
   clear FE
   go_wp2_with fail
   go_ret
   exact ⟨by rw [PF.out]; rfl, BH.out⟩
  have FE := Lib.hid (FE.out.trans (Bool.true_and _))
  by_cases h : r.frm = r.branch
  ·have g1 : (r.frm == r.branch) = true := by rw [h]; simp
   have g2 : (r.frm != r.branch) = false := by rw [h]; simp
   have PF : Hid (R = false) := Lib.hid (by rw [FE.out, decide_eq_true h]; rfl)
   clear h FE
   go_wp2_with fail
   go_ret
   exact ⟨by rw [PF.out]; rfl, BH.out⟩
  have g20 : (r.frm == r.branch) = false := by simpa using h
  have k20 : (r.frm != r.branch) = true := by simpa using h
  have FE := Lib.hid (FE.out.trans (by rw [decide_eq_false h]; rfl : _ = !r.yes))
  clear h
  generalize r.yes = ye at *
  go_wp2_with fail
  go_ret
  exact ⟨by rw [FE.out]; rfl, BH.out⟩
 have e1 : (r.kind == 1) = false := by simpa using h1
 have f1 : (r.kind != 1) = true := by simpa using h1
 have e2 : (r.kind == 2) = false := by simpa using h2
 have f2 : (r.kind != 2) = true := by simpa using h2
 have e3 : (r.kind == 3) = false := by simpa using h3
 have f3 : (r.kind != 3) = true := by simpa using h3
 have e4 : (r.kind == 4) = false := by simpa using h4
 have f4 : (r.kind != 4) = true := by simpa using h4
 have FW := w0 h1 h2 h3 h4
 clear h1 h2 h3 h4
 have FE := FW
 clear w0 w1 w2 w3a w3b w4
 have y0 := c0 X OX
 have y4 := c4 X OX
 have y6 := c6 X OX
 have y7 := c7 X OX
 have y8 := c8 X OX
 have y9 := c9 X OX
 have y10 := c10 X OX
 by_cases h : ne = 0
 rotate_left
 ·have g1 : (0 : Int) < (ne : Int) := by omega
  have g2 : decide ((0 : Int) < (ne : Int)) = true := decide_eq_true g1
  have PF : Hid (R = false) := Lib.hid (by rw [FE.out, decide_eq_false h]; simp)
  clear h FE
  go_wp2_with fail
  go_ret
  exact ⟨by rw [PF.out]; rfl, BH.out⟩
 have g21 : ¬ (0 : Int) < (ne : Int) := by omega
 have k21 : decide ((0 : Int) < (ne : Int)) = false := decide_eq_false g21
 have FE := Lib.hid (FE.out.trans (by rw [decide_eq_true h, Bool.true_and]))
 clear h
 by_cases h : r.target = []
 rotate_left
 ·have g1 : (r.target == []) = false := by simpa using h
  have g2 : (r.target != []) = true := by simpa using h
  have PF : Hid (R = false) := Lib.hid (by rw [FE.out, decide_eq_false h]; simp)
  clear h FE
  go_wp2_with fail
  go_ret
  exact ⟨by rw [PF.out]; rfl, BH.out⟩
 have g22 : (r.target == []) = true := by rw [h]; rfl
 have k22 : (r.target != []) = false := by rw [h]; rfl
 have FE := Lib.hid (FE.out.trans (by rw [decide_eq_true h, Bool.true_and]))
 clear h
 by_cases h : r.order = 0
 rotate_left
 ·have g1 : (r.order == 0) = false := by simpa using h
  have g2 : (r.order != 0) = true := by simpa using h
  have PF : Hid (R = false) := Lib.hid (by rw [FE.out, decide_eq_false h]; simp)
  clear h FE
  go_wp2_with fail
  go_ret
  exact ⟨by rw [PF.out]; rfl, BH.out⟩
 have g23 : (r.order == 0) = true := by rw [h]; rfl
 have k23 : (r.order != 0) = false := by rw [h]; rfl
 have FE := Lib.hid (FE.out.trans (by rw [decide_eq_true h, Bool.true_and]))
 clear h
 by_cases h : r.frm = []
 rotate_left
 ·have g1 : (r.frm == []) = false := by simpa using h
  have g2 : (r.frm != []) = true := by simpa using h
  have PF : Hid (R = false) := Lib.hid (by rw [FE.out, decide_eq_false h]; simp)
  clear h FE
  go_wp2_with fail
  go_ret
  exact ⟨by rw [PF.out]; rfl, BH.out⟩
 have g24 : (r.frm == []) = true := by rw [h]; rfl
 have k24 : (r.frm != []) = false := by rw [h]; rfl
 have FE := Lib.hid (FE.out.trans (by rw [decide_eq_true h, Bool.true_and]))
 clear h
 generalize r.yes = ye at *
 go_wp2_with fail
 go_ret
 exact ⟨by rw [FE.out]; rfl, BH.out⟩
end Go.Proofs.YtniklmikdkjgiaaGreatDoor
namespace Go.Proofs.YtniklmikdkjgiaaGreatDoor
open Go.RowKit
theorem r27_steps (c : Rc) : validR c = (decide (1 ≤ c.kind) && (decide (c.kind ≤ 5) && (decide (0 ≤ c.author) && (decide (c.author ≤ 59) && (decide (1 ≤ c.number) && (decide (c.number ≤ 128) && (decide (1 ≤ c.clock) && (decide (c.clock ≤ 1000000) && (At.nameB c.branch && (decide (c.parents.length ≤ 16) && (c.parents.all Dg.isD && (incB c.parents && (own27 c && (formedS c.sla && priv27 c.priv)))))))))))))) := by
 rw [← r27_eq]
 unfold r27V
 simp only [Bool.and_assoc]
theorem rv27_any (r : RV) (w : World) (h : RvIs w r) (hs : RcSz r.c) :
  Calls Tryz.prog 105 #[rvA r] w fun en w' => en = .returned (.bool (validR r.c)) ∧ Below w.heap.size w w' := by
 have OW0 := fun u (hu : Below w.heap.size w u) => own27_any r u (h.below hu) hs
 have FO0 := fun u (hu : Below w.heap.size w u) => formed27_any r.sla u (h.sl.below hu) hs.sla
 have PR0 := fun u (hu : Below w.heap.size w u) => private27_any r u (h.below hu) hs
 obtain ⟨A0, a0, v0, r0⟩ := h.pa
 obtain ⟨⟨A1, a1, v1, -⟩, ⟨A2, a2, v2, -⟩⟩ := id h.sl
 obtain ⟨A4, a4, v4, -⟩ := h.so
 obtain ⟨A5, a5, v5, -⟩ := h.tr
 obtain ⟨⟨A6, a6, v6, -⟩, ⟨A7, a7, v7, -⟩⟩ := id h.ps
 have sl_e : (slL r.sla).toArray = #[.int .i64 r.sla.index, .slice A1 r.sla.sig.length a1, .slice A2 r.sla.path.length a2] := by unfold slL; rw [v1, v2]
 have pr_e : (prL r).toArray = #[.string (mkB r.name), .string (mkB r.reason), .slice A4 r.sources.length a4, .slice A5 r.trace.length a5, .int .i64 r.pseal.index, .slice A6 r.pseal.sig.length a6, .slice A7 r.pseal.path.length a7] := by unfold prL; rw [v4, v5, v6, v7]
 obtain ⟨n, hn⟩ : ∃ n, n = r.parents.length := ⟨_, rfl⟩
 have zs := hs.parents
 have ZP : Hid (∀ s ∈ r.parents, s.length ≤ 1000000) := Lib.hid hs.parent
 have hnl : n ≤ 1000000 := by rw [hn]; exact zs
 unfold rvA at OW0 ⊢
 obtain ⟨X, hX⟩ : ∃ X, X = w.alloc (.cells (rvL r).toArray 56) := ⟨_, rfl⟩
 obtain ⟨bx, hbx⟩ : ∃ bx, w.heap.size = bx := ⟨_, rfl⟩
 have BX : Below w.heap.size w X := by rw [hX]; exact (Below.refl _ _).alloc (Nat.le_refl _) _
 have XX : X.heap[bx]? = some (.cells (rvL r).toArray 56 (0, 0)) := by rw [hX, ← hbx]; exact heap_alloc_new w _
 have RX : Hid (∀ u, OldB X u → u.rangeAt bx 0 (rvL r)) := Lib.hid (fun u hu => by have := range_of_row ((hu.block bx (lt_of_block XX)).trans XX); simpa using this)
 have OX : OldB X X := Below.refl _ _
 have BA : Hid (∀ u, OldB X u → Below w.heap.size w u) := Lib.hid (fun u hu => BX.trans (Below.mono hu BX.size))
 have c0 : ∀ u, OldB X u → u.cell? ⟨bx, 0, none⟩ = some (.int .i64 r.kind) := fun u hu => by have := RX.out u hu 0 _ rfl; simpa using this
 have c1 : ∀ u, OldB X u → u.cell? ⟨bx, 1, none⟩ = some (.int .i64 r.author) := fun u hu => by have := RX.out u hu 1 _ rfl; simpa using this
 have c2 : ∀ u, OldB X u → u.cell? ⟨bx, 2, none⟩ = some (.int .i64 r.number) := fun u hu => by have := RX.out u hu 2 _ rfl; simpa using this
 have c3 : ∀ u, OldB X u → u.cell? ⟨bx, 3, none⟩ = some (.int .i64 r.clock) := fun u hu => by have := RX.out u hu 3 _ rfl; simpa using this
 have c4 : ∀ u, OldB X u → u.cell? ⟨bx, 4, none⟩ = some (.string (mkB r.branch)) := fun u hu => by have := RX.out u hu 4 _ rfl; simpa using this
 have c5 : ∀ u, OldB X u → u.cell? ⟨bx, 5, none⟩ = some (.slice A0 n a0) := fun u hu => by have := RX.out u hu 5 _ rfl; rw [hn, ← v0]; simpa using this
 have c11 : ∀ u, OldB X u → u.cell? ⟨bx, 11, none⟩ = some (.int .i64 r.sla.index) := fun u hu => by have := RX.out u hu 11 _ rfl; simpa using this
 have c12 : ∀ u, OldB X u → u.cell? ⟨bx, 12, none⟩ = some (.slice A1 r.sla.sig.length a1) := fun u hu => by have := RX.out u hu 12 _ rfl; rw [← v1]; simpa using this
 have c13 : ∀ u, OldB X u → u.cell? ⟨bx, 13, none⟩ = some (.slice A2 r.sla.path.length a2) := fun u hu => by have := RX.out u hu 13 _ rfl; rw [← v2]; simpa using this
 have c14 : ∀ u, OldB X u → u.cell? ⟨bx, 14, none⟩ = some (.string (mkB r.name)) := fun u hu => by have := RX.out u hu 14 _ rfl; simpa using this
 have c15 : ∀ u, OldB X u → u.cell? ⟨bx, 15, none⟩ = some (.string (mkB r.reason)) := fun u hu => by have := RX.out u hu 15 _ rfl; simpa using this
 have c16 : ∀ u, OldB X u → u.cell? ⟨bx, 16, none⟩ = some (.slice A4 r.sources.length a4) := fun u hu => by have := RX.out u hu 16 _ rfl; rw [← v4]; simpa using this
 have c17 : ∀ u, OldB X u → u.cell? ⟨bx, 17, none⟩ = some (.slice A5 r.trace.length a5) := fun u hu => by have := RX.out u hu 17 _ rfl; rw [← v5]; simpa using this
 have c18 : ∀ u, OldB X u → u.cell? ⟨bx, 18, none⟩ = some (.int .i64 r.pseal.index) := fun u hu => by have := RX.out u hu 18 _ rfl; simpa using this
 have c19 : ∀ u, OldB X u → u.cell? ⟨bx, 19, none⟩ = some (.slice A6 r.pseal.sig.length a6) := fun u hu => by have := RX.out u hu 19 _ rfl; rw [← v6]; simpa using this
 have c20 : ∀ u, OldB X u → u.cell? ⟨bx, 20, none⟩ = some (.slice A7 r.pseal.path.length a7) := fun u hu => by have := RX.out u hu 20 _ rfl; rw [← v7]; simpa using this
 have OW := Lib.hid (fun u hu => OW0 u (BA.out u hu))
 have FO := Lib.hid (fun u hu => FO0 u (BA.out u hu))
 have PR := Lib.hid (fun u hu => PR0 u (BA.out u hu))
 rw [sl_e] at FO
 rw [pr_e] at PR
 have NM := Lib.hid (fun u => rname_any r.branch u (Nat.le_trans hs.branch (by decide)))
 have DI := Lib.hid (fun u hu => dig27_any A0 n a0 r.parents u hn hnl ZP.out (r0.below (BA.out u hu)))
 have RP := Lib.hid (fun u hu => r0.below (BA.out u hu))
 have HN := Lib.hid hn
 have BH := Lib.hid BX
 have X0 := Lib.hid hX
 have X1 := Lib.hid hbx
 have FE0 := r27_steps r.c
 rw [show r.c.parents.length = n from hn.symm] at FE0
 have FE : Hid (validR r.c = (decide (1 ≤ r.kind) && (decide (r.kind ≤ 5) && (decide (0 ≤ r.author) && (decide (r.author ≤ 59) && (decide (1 ≤ r.number) && (decide (r.number ≤ 128) && (decide (1 ≤ r.clock) && (decide (r.clock ≤ 1000000) && (At.nameB r.branch && (decide (n ≤ 16) && (r.parents.all Dg.isD && (incB r.parents && (own27 r.c && (formedS r.sla.c && priv27 r.c.priv))))))))))))))) := Lib.hid FE0
 have SZR : (Tryz.prog.info? 56).map (·.size) = some (rvL r).length := by kernel_rfl
 generalize validR r.c = R at *
 generalize own27 r.c = qo at *
 generalize formedS r.sla.c = qf at *
 generalize priv27 r.c.priv = qp at *
 clear h hs hX hbx BX XX OW0 FO0 PR0 sl_e pr_e v0 v1 v2 v4 v5 v6 v7 r0 zs FE0 hn
 have IB : Hid (∀ j, j + 1 < n → At.lt (r.parents.getD j []) (r.parents.getD (j + 1) []) = false → incB r.parents = false) := Lib.hid (fun j hj hl => inc_bad (by rw [← HN.out]; exact hj) hl)
 have IG : Hid (∀ j, upTo r.parents j = true → ¬ j + 1 < n → incB r.parents = true) := Lib.hid (fun j hj hl => inc_good hj (by rw [← HN.out]; exact hl))
 go_enter Tryz.func105, Tryz.ntmps105
 go_upto_region 1 with fail
 rw [← X0.out, X1.out]
 clear X0 X1
 have y0 := c0 X OX
 have y1 := c1 X OX
 have y2 := c2 X OX
 have y3 := c3 X OX
 have y4 := c4 X OX
 have y5 := c5 X OX
 by_cases h : 1 ≤ r.kind
 rotate_left
 ·have g1 : r.kind < 1 := by omega
  have g2 : decide (r.kind < 1) = true := decide_eq_true g1
  have PF : Hid (R = false) := Lib.hid (by rw [FE.out, decide_eq_false h]; simp)
  clear h FE
  go_wp2_with fail
  go_ret
  exact ⟨by rw [PF.out]; rfl, BH.out⟩
 have g0 : ¬ r.kind < 1 := by omega
 have k0 : decide (r.kind < 1) = false := decide_eq_false g0
 have FE := Lib.hid (FE.out.trans (by rw [decide_eq_true h, Bool.true_and]))
 clear h
 by_cases h : r.kind ≤ 5
 rotate_left
 ·have g1 : 5 < r.kind := by omega
  have g2 : decide (5 < r.kind) = true := decide_eq_true g1
  have PF : Hid (R = false) := Lib.hid (by rw [FE.out, decide_eq_false h]; simp)
  clear h FE
  go_wp2_with fail
  go_ret
  exact ⟨by rw [PF.out]; rfl, BH.out⟩
 have g1 : ¬ 5 < r.kind := by omega
 have k1 : decide (5 < r.kind) = false := decide_eq_false g1
 have FE := Lib.hid (FE.out.trans (by rw [decide_eq_true h, Bool.true_and]))
 clear h
 by_cases h : 0 ≤ r.author
 rotate_left
 ·have g1 : r.author < 0 := by omega
  have g2 : decide (r.author < 0) = true := decide_eq_true g1
  have PF : Hid (R = false) := Lib.hid (by rw [FE.out, decide_eq_false h]; simp)
  clear h FE
  go_wp2_with fail
  go_ret
  exact ⟨by rw [PF.out]; rfl, BH.out⟩
 have g2 : ¬ r.author < 0 := by omega
 have k2 : decide (r.author < 0) = false := decide_eq_false g2
 have FE := Lib.hid (FE.out.trans (by rw [decide_eq_true h, Bool.true_and]))
 clear h
 by_cases h : r.author ≤ 59
 rotate_left
 ·have g1 : 59 < r.author := by omega
  have g2 : decide (59 < r.author) = true := decide_eq_true g1
  have PF : Hid (R = false) := Lib.hid (by rw [FE.out, decide_eq_false h]; simp)
  clear h FE
  go_wp2_with fail
  go_ret
  exact ⟨by rw [PF.out]; rfl, BH.out⟩
 have g3 : ¬ 59 < r.author := by omega
 have k3 : decide (59 < r.author) = false := decide_eq_false g3
 have FE := Lib.hid (FE.out.trans (by rw [decide_eq_true h, Bool.true_and]))
 clear h
 by_cases h : 1 ≤ r.number
 rotate_left
 ·have g1 : r.number < 1 := by omega
  have g2 : decide (r.number < 1) = true := decide_eq_true g1
  have PF : Hid (R = false) := Lib.hid (by rw [FE.out, decide_eq_false h]; simp)
  clear h FE
  go_wp2_with fail
  go_ret
  exact ⟨by rw [PF.out]; rfl, BH.out⟩
 have g4 : ¬ r.number < 1 := by omega
 have k4 : decide (r.number < 1) = false := decide_eq_false g4
 have FE := Lib.hid (FE.out.trans (by rw [decide_eq_true h, Bool.true_and]))
 clear h
 by_cases h : r.number ≤ 128
 rotate_left
 ·have g1 : 128 < r.number := by omega
  have g2 : decide (128 < r.number) = true := decide_eq_true g1
  have PF : Hid (R = false) := Lib.hid (by rw [FE.out, decide_eq_false h]; simp)
  clear h FE
  go_wp2_with fail
  go_ret
  exact ⟨by rw [PF.out]; rfl, BH.out⟩
 have g5 : ¬ 128 < r.number := by omega
 have k5 : decide (128 < r.number) = false := decide_eq_false g5
 have FE := Lib.hid (FE.out.trans (by rw [decide_eq_true h, Bool.true_and]))
 clear h
 by_cases h : 1 ≤ r.clock
 rotate_left
 ·have g1 : r.clock < 1 := by omega
  have g2 : decide (r.clock < 1) = true := decide_eq_true g1
  have PF : Hid (R = false) := Lib.hid (by rw [FE.out, decide_eq_false h]; simp)
  clear h FE
  go_wp2_with fail
  go_ret
  exact ⟨by rw [PF.out]; rfl, BH.out⟩
 have g6 : ¬ r.clock < 1 := by omega
 have k6 : decide (r.clock < 1) = false := decide_eq_false g6
 have FE := Lib.hid (FE.out.trans (by rw [decide_eq_true h, Bool.true_and]))
 clear h
 by_cases h : r.clock ≤ 1000000
 rotate_left
 ·have g1 : 1000000 < r.clock := by omega
  have g2 : decide (1000000 < r.clock) = true := decide_eq_true g1
  have PF : Hid (R = false) := Lib.hid (by rw [FE.out, decide_eq_false h]; simp)
  clear h FE
  go_wp2_with fail
  go_ret
  exact ⟨by rw [PF.out]; rfl, BH.out⟩
 have g7 : ¬ 1000000 < r.clock := by omega
 have k7 : decide (1000000 < r.clock) = false := decide_eq_false g7
 have FE := Lib.hid (FE.out.trans (by rw [decide_eq_true h, Bool.true_and]))
 clear h
 go_wp2_with fail
 (with_reducible refine (NM.out _).mono ?_)
 rintro en u1 ⟨rfl, e1⟩
 rw [e1]
 clear e1 u1
 generalize At.nameB r.branch = qn at *
 cases qn
 ·have PF : Hid (R = false) := Lib.hid (by rw [FE.out]; simp)
  clear FE
  go_wp2_with fail
  go_ret
  exact ⟨by rw [PF.out]; rfl, BH.out⟩
 have FE := Lib.hid (FE.out.trans (Bool.true_and _))
 by_cases h : n ≤ 16
 rotate_left
 ·have g1 : (16 : Int) < (n : Int) := by omega
  have g2 : decide ((16 : Int) < (n : Int)) = true := decide_eq_true g1
  have PF : Hid (R = false) := Lib.hid (by rw [FE.out, decide_eq_false h]; simp)
  clear h FE
  go_wp2_with fail
  go_ret
  exact ⟨by rw [PF.out]; rfl, BH.out⟩
 have g8 : ¬ (16 : Int) < (n : Int) := by omega
 have k8 : decide ((16 : Int) < (n : Int)) = false := decide_eq_false g8
 have FE := Lib.hid (FE.out.trans (by rw [decide_eq_true h, Bool.true_and]))
 go_wp2_with fail
 (with_reducible refine (DI.out X OX).mono ?_)
 rintro en u2 ⟨rfl, e2⟩
 rw [e2]
 clear e2 u2
 generalize r.parents.all Dg.isD = qd at *
 cases qd
 ·have PF : Hid (R = false) := Lib.hid (by rw [FE.out]; simp)
  clear FE
  go_wp2_with fail
  go_ret
  exact ⟨by rw [PF.out]; rfl, BH.out⟩
 have FE := Lib.hid (FE.out.trans (Bool.true_and _))
 have U0 : Hid (upTo r.parents 0 = true) := Lib.hid rfl
 have OXH := Lib.hid OX
 clear y0 y1 y2 y3 y4 y5 g0 g1 g2 g3 g4 g5 g6 g7 g8 k0 k1 k2 k3 k4 k5 k6 k7 k8 DI NM OX
 go_upto_region 4 with fail
 go_loopw [3] (fun s3 wr => ∃ k : Nat, 1 ≤ k ∧ (k ≤ n ∨ k = 1) ∧ s3 = .int .i64 (k : Int) ∧ Hid (upTo r.parents (k - 1) = true) ∧ Hid (OldB X wr)) (fun i _ => (n + 1) - (intOf i).toNat)
 case atStart => exact ⟨1, Nat.le_refl _, .inr rfl, rfl, U0, OXH⟩
 case round =>
  clear U0 OXH
  obtain ⟨k, hk1, hkn, rfl, UP, OL⟩ := hrel
  have y5 := c5 wr OL.out
  by_cases hlt : k < n
  ·have d1 : (k : Int) < (n : Int) := by omega
   have d2 : (0 : Int) ≤ (k : Int) := by omega
   obtain ⟨j, hj⟩ : ∃ j, k = j + 1 := ⟨k - 1, by omega⟩
   have d3 : (j : Int) < (n : Int) := by omega
   have d4 : (0 : Int) ≤ (j : Int) := by omega
   have kw : IntKind.i64.wrap ((k : Int) - 1) = (j : Int) := by rw [IntWalk.i64_in _ (by omega)]; omega
   have hkl : k < r.parents.length := by rw [← HN.out]; exact hlt
   have hjl : j < r.parents.length := by omega
   obtain ⟨b, off, hA, hb, ck⟩ := strs_at (RP.out wr OL.out) hkl
   obtain ⟨b', off', hA', hb', cj⟩ := strs_at (RP.out wr OL.out) hjl
   obtain rfl : b' = b := by rw [hA] at hA'; injection hA' with e; injection e with e1 e2; exact e1.symm
   obtain rfl : off' = off := by rw [hA] at hA'; injection hA' with e; injection e with e1 e2; exact e2.symm
   clear hA'
   subst hA
   have z5 : ∀ u, OldB wr u → u.cell? ⟨bx, 5, none⟩ = some (.slice (some ⟨b', off', none⟩) n a0) := fun u hu => c5 u (OldB.then OL.out hu)
   have zk : ∀ u, OldB wr u → u.cell? ⟨b', off' + k, none⟩ = some (.string (mkB r.parents[k])) := fun u hu => (World.cell?_of_block (w := wr) (hu.block b' hb)).trans ck
   have zj : ∀ u, OldB wr u → u.cell? ⟨b', off' + j, none⟩ = some (.string (mkB r.parents[j])) := fun u hu => (World.cell?_of_block (w := wr) (hu.block b' hb)).trans cj
   have US := Lib.hid (upTo_succ r.parents j)
   have IBJ := Lib.hid (IB.out j (by omega))
   have KJ := Lib.hid hj
   have EG : Hid (r.parents.getD j [] = r.parents[j] ∧ r.parents.getD (j + 1) [] = r.parents[k]) := Lib.hid (by subst hj; exact ⟨by rw [List.getD_eq_getElem?_getD, List.getElem?_eq_getElem hjl]; rfl, by rw [List.getD_eq_getElem?_getD, List.getElem?_eq_getElem hkl]; rfl⟩)
   rw [EG.out.1, EG.out.2] at US IBJ
   have UPJ : Hid (upTo r.parents j = true) := Lib.hid (by have := UP.out; rwa [hj, Nat.add_sub_cancel] at this)
   clear ck cj UP EG hj
   generalize r.parents[k] = x at *
   generalize r.parents[j] = z at *
   have tx := mkB_tl x
   have tz := mkB_tl z
   obtain ⟨q, hq⟩ : ∃ q, At.lt z x = q := ⟨_, rfl⟩
   have PB : Op.bytesLess z x = q := hq
   rw [hq] at US IBJ
   clear hq
   go_upto_region 6 with fail
   clear y5
   (refine wp_region_noPanic ?_; refine wp_region_held_drew (S := (OldB wr)) (by kernel_rfl) ?_ (fun hHeld => ?_); exact Below.drew (Below.refl _ _))
   generalize wr.drew = ud at *
   (refine tkW 0 ?_; try simp only [gmS])
   (refine tkW 1 ?_; try simp only [gmS])
   (refine tkW 2 ?_; try simp only [gmS])
   (refine tkW 3 ?_; try simp only [gmS])
   (refine tkW 4 ?_; try simp only [gmS])
   (refine tkW 5 ?_; try simp only [gmS])
   (refine tkW 6 ?_; try simp only [gmS])
   (refine tkW 7 ?_; try simp only [gmS])
   (refine tkW 8 ?_; try simp only [gmS])
   (refine tkW 9 ?_; try simp only [gmS])
   (refine tkW 10 ?_; try simp only [gmS])
   (refine tkW 11 ?_; try simp only [gmS])
   have OL2 := Lib.hid (OldB.then OL.out hHeld)
   (refine wpAnyH_done (by kernel_rfl) ?_ _; refine NoPanic.normal ?_)
   clear hHeld
   cases q
   ·have PF : Hid (R = false) := Lib.hid (by rw [FE.out, IBJ.out rfl]; simp)
    have FB := Lib.hid (BA.out _ OL2.out)
    clear FE
    go_wp2_with fail
    go_ret
    exact ⟨by rw [PF.out]; rfl, FB.out⟩
   ·have U2 : Hid (upTo r.parents (k + 1 - 1) = true) := Lib.hid (by rw [Nat.add_sub_cancel, KJ.out, US.out, UPJ.out]; rfl)
    go_wp2_with fail
    exact ⟨⟨k + 1, by omega, .inl (by omega), by go_num, U2, OL2⟩, by simp [intOf]; omega⟩
  ·have d1 : ¬ (k : Int) < (n : Int) := by omega
   have FE := Lib.hid (FE.out.trans (by rw [IG.out (k - 1) UP.out (by omega), Bool.true_and]))
   have RL := Lib.hid (RX.out wr OL.out)
   have OWW := Lib.hid (OW.out wr OL.out)
   clear RX
   go_wp2_with (refine wpList_load_mid rfl 56 (.tmp 1) rfl bx 0 rfl (rvL r) _ RL.out Tryz.underlying56 rfl SZR ?_)
   (with_reducible refine OWW.out.mono ?_)
   rintro en u3 ⟨rfl, b3⟩
   have O3 : OldB X u3 := OldB.then OL.out b3
   have F3 := Lib.hid (BA.out _ O3)
   have FOW := Lib.hid (FO.out u3 O3)
   have y11 := c11 u3 O3
   have y12 := c12 u3 O3
   have y13 := c13 u3 O3
   clear b3 OWW RL y5
   cases qo
   ·have PF : Hid (R = false) := Lib.hid (by rw [FE.out]; rfl)
    clear FE
    go_wp2_with fail
    go_ret
    exact ⟨by rw [PF.out]; rfl, F3.out⟩
   have FE := Lib.hid (FE.out.trans (Bool.true_and _))
   go_wp2_with fail
   (with_reducible refine FOW.out.mono ?_)
   rintro en u4 ⟨rfl, b4⟩
   have O4 : OldB X u4 := OldB.then O3 b4
   have F4 := Lib.hid (BA.out _ O4)
   have PRW := Lib.hid (PR.out u4 O4)
   have y14 := c14 u4 O4
   have y15 := c15 u4 O4
   have y16 := c16 u4 O4
   have y17 := c17 u4 O4
   have y18 := c18 u4 O4
   have y19 := c19 u4 O4
   have y20 := c20 u4 O4
   clear b4 FOW y11 y12 y13
   cases qf
   ·have PF : Hid (R = false) := Lib.hid (by rw [FE.out]; rfl)
    clear FE
    go_wp2_with fail
    go_ret
    exact ⟨by rw [PF.out]; rfl, F4.out⟩
   have FE := Lib.hid (FE.out.trans (Bool.true_and _))
   go_wp2_with fail
   (with_reducible refine PRW.out.mono ?_)
   rintro en u5 ⟨rfl, b5⟩
   have F5 := Lib.hid (BA.out _ (OldB.then O4 b5))
   clear b5 PRW
   go_wp2_with fail
   go_ret
   exact ⟨by rw [FE.out]; rfl, F5.out⟩
end Go.Proofs.YtniklmikdkjgiaaGreatDoor
