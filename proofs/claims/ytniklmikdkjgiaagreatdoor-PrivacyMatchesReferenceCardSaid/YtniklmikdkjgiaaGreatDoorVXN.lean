import Derived.Test.YtniklmikdkjgiaaGreatDoorCLD
import Derived.Test.YtniklmikdkjgiaaGreatDoorVXL
import Derived.Test.YtniklmikdkjgiaaGreatDoorVXM
import Derived.Test.YtniklmikdkjgiaaGreatDoorWD
set_option linter.all false
set_option maxHeartbeats 16000000
set_option maxRecDepth 100000
namespace Go.Proofs.YtniklmikdkjgiaaGreatDoor
open Go.RowKit
theorem ppub_any (a b : RV) (w : World) (h : RvIs w a) (k : RvIs w b) (ha : RcSz a.c) (hb : RcSz b.c) :
  Calls Tryz.prog 58 #[.agg (rvL a).toArray, .agg (rvL b).toArray] w fun e w' => e = .returned (.bool (pubC a.c b.c && sameS a.c.sla b.c.sla)) ∧ Below w.heap.size w w' := by
 obtain ⟨A1, c1, v1, r1⟩ := h.pa
 obtain ⟨A2, c2, v2, r2⟩ := k.pa
 obtain ⟨A3, c3, v3, r3⟩ := h.ed
 obtain ⟨A4, c4, v4, r4⟩ := k.ed
 have SP : Hid ((pubC a.c b.c && sameS a.c.sla b.c.sla) = ((decide (a.kind = b.kind) && (decide (a.author = b.author) && (decide (a.number = b.number) && (decide (a.clock = b.clock) && (decide (a.branch = b.branch) && (decide (a.target = b.target) && (decide (a.yes = b.yes) && (decide (a.order = b.order) && decide (a.frm = b.frm))))))))) && (decide (a.parents = b.parents) && (all2 (fun a b => sameE a.c b.c) a.edits b.edits && sameS a.c.sla b.c.sla)))) := Lib.hid (by
  rw [show pubC a.c b.c = (decide (a.kind = b.kind) && decide (a.author = b.author) && decide (a.number = b.number) && decide (a.clock = b.clock) && decide (a.branch = b.branch) && decide (a.parents = b.parents) && all2 sameE (edsC a.edits) (edsC b.edits) && decide (a.target = b.target) && decide (a.yes = b.yes) && decide (a.order = b.order) && decide (a.frm = b.frm)) from rfl]
  rw [show all2 sameE (edsC a.edits) (edsC b.edits) = all2 (fun a b => sameE a.c b.c) a.edits b.edits from all2_map _ _ _ _]
  ac_rfl)
 obtain ⟨W, hW⟩ : ∃ W, W = (w.alloc (.cells (rvL a).toArray 56)).alloc (.cells (rvL b).toArray 56) := ⟨_, rfl⟩
 have BW : Hid (Below w.heap.size w W) := Lib.hid (by rw [hW]; exact ((Below.refl _ _).alloc (Nat.le_refl _) _).alloc (by simp) _)
 have HX : Hid (W.heap[w.heap.size]? = some (.cells (rvL a).toArray 56 (0, 0))) := Lib.hid (by rw [hW]; exact (alloc_old _ _ (by simp)).trans (heap_alloc_new w _))
 have HY : Hid (W.heap[w.heap.size + 1]? = some (.cells (rvL b).toArray 56 (0, 0))) := Lib.hid (by rw [hW]; exact alloc_new' _ _ _ (by simp))
 have HZ : W.heap.size = w.heap.size + 2 := by rw [hW]; simp
 have BA : Hid (∀ u, OldB W u → Below w.heap.size w u) := Lib.hid (fun u hu => BW.out.trans (Below.mono hu BW.out.size))
 have XA := fun u (hu : OldB W u) => (hu.block w.heap.size (by omega)).trans HX.out
 have XB := fun u (hu : OldB W u) => (hu.block (w.heap.size + 1) (by omega)).trans HY.out
 have SW : OldB W W := Below.refl _ _
 have a0 : ∀ u, OldB W u → u.cell? ⟨w.heap.size, 0, none⟩ = some (.int .i64 a.kind) := fun u hu => load_block (XA u hu) (by rfl)
 have a1 : ∀ u, OldB W u → u.cell? ⟨w.heap.size, 1, none⟩ = some (.int .i64 a.author) := fun u hu => load_block (XA u hu) (by rfl)
 have a2 : ∀ u, OldB W u → u.cell? ⟨w.heap.size, 2, none⟩ = some (.int .i64 a.number) := fun u hu => load_block (XA u hu) (by rfl)
 have a3 : ∀ u, OldB W u → u.cell? ⟨w.heap.size, 3, none⟩ = some (.int .i64 a.clock) := fun u hu => load_block (XA u hu) (by rfl)
 have a4 : ∀ u, OldB W u → u.cell? ⟨w.heap.size, 4, none⟩ = some (.string (mkB a.branch)) := fun u hu => load_block (XA u hu) (by rfl)
 have a7 : ∀ u, OldB W u → u.cell? ⟨w.heap.size, 7, none⟩ = some (.string (mkB a.target)) := fun u hu => load_block (XA u hu) (by rfl)
 have a8 : ∀ u, OldB W u → u.cell? ⟨w.heap.size, 8, none⟩ = some (.bool a.yes) := fun u hu => load_block (XA u hu) (by rfl)
 have a9 : ∀ u, OldB W u → u.cell? ⟨w.heap.size, 9, none⟩ = some (.int .i64 a.order) := fun u hu => load_block (XA u hu) (by rfl)
 have a10 : ∀ u, OldB W u → u.cell? ⟨w.heap.size, 10, none⟩ = some (.string (mkB a.frm)) := fun u hu => load_block (XA u hu) (by rfl)
 have b0 : ∀ u, OldB W u → u.cell? ⟨w.heap.size + 1, 0, none⟩ = some (.int .i64 b.kind) := fun u hu => load_block (XB u hu) (by rfl)
 have b1 : ∀ u, OldB W u → u.cell? ⟨w.heap.size + 1, 1, none⟩ = some (.int .i64 b.author) := fun u hu => load_block (XB u hu) (by rfl)
 have b2 : ∀ u, OldB W u → u.cell? ⟨w.heap.size + 1, 2, none⟩ = some (.int .i64 b.number) := fun u hu => load_block (XB u hu) (by rfl)
 have b3 : ∀ u, OldB W u → u.cell? ⟨w.heap.size + 1, 3, none⟩ = some (.int .i64 b.clock) := fun u hu => load_block (XB u hu) (by rfl)
 have b4 : ∀ u, OldB W u → u.cell? ⟨w.heap.size + 1, 4, none⟩ = some (.string (mkB b.branch)) := fun u hu => load_block (XB u hu) (by rfl)
 have b7 : ∀ u, OldB W u → u.cell? ⟨w.heap.size + 1, 7, none⟩ = some (.string (mkB b.target)) := fun u hu => load_block (XB u hu) (by rfl)
 have b8 : ∀ u, OldB W u → u.cell? ⟨w.heap.size + 1, 8, none⟩ = some (.bool b.yes) := fun u hu => load_block (XB u hu) (by rfl)
 have b9 : ∀ u, OldB W u → u.cell? ⟨w.heap.size + 1, 9, none⟩ = some (.int .i64 b.order) := fun u hu => load_block (XB u hu) (by rfl)
 have b10 : ∀ u, OldB W u → u.cell? ⟨w.heap.size + 1, 10, none⟩ = some (.string (mkB b.frm)) := fun u hu => load_block (XB u hu) (by rfl)
 have a5 : ∀ u, OldB W u → u.cell? ⟨w.heap.size, 5, none⟩ = some (.slice A1 a.parents.length c1) := fun u hu => by rw [← v1]; exact load_block (XA u hu) (by rfl)
 have b5 : ∀ u, OldB W u → u.cell? ⟨w.heap.size + 1, 5, none⟩ = some (.slice A2 b.parents.length c2) := fun u hu => by rw [← v2]; exact load_block (XB u hu) (by rfl)
 have a6 : ∀ u, OldB W u → u.cell? ⟨w.heap.size, 6, none⟩ = some (.slice A3 a.edits.length c3) := fun u hu => by rw [← v3]; exact load_block (XA u hu) (by rfl)
 have b6 : ∀ u, OldB W u → u.cell? ⟨w.heap.size + 1, 6, none⟩ = some (.slice A4 b.edits.length c4) := fun u hu => by rw [← v4]; exact load_block (XB u hu) (by rfl)
 have ta_branch := mkB_tl a.branch
 have tb_branch := mkB_tl b.branch
 have ta_target := mkB_tl a.target
 have tb_target := mkB_tl b.target
 have ta_frm := mkB_tl a.frm
 have tb_frm := mkB_tl b.frm
 have E1 : Hid (∀ u, OldB W u → Calls Tryz.prog 97 #[.slice A1 a.parents.length c1, .slice A2 b.parents.length c2] u fun e w' => e = .returned (.bool (decide (a.parents = b.parents))) ∧ Below u.heap.size u w') := Lib.hid (fun u hu => eqs_any A1 A2 c1 c2 a.parents b.parents _ _ u rfl rfl ha.parents hb.parents (r1.below (BA.out u hu)) (r2.below (BA.out u hu)))
 have E2 : Hid (∀ u, OldB W u → Calls Tryz.prog 98 #[.slice A3 a.edits.length c3, .slice A4 b.edits.length c4, .func (.func 99) #[] #[]] u fun e w' => e = .returned (.bool (all2 (fun a b => sameE a.c b.c) a.edits b.edits)) ∧ Below u.heap.size u w') := Lib.hid (fun u hu => eqfe_any A3 A4 c3 c4 a.edits b.edits _ _ u rfl rfl (r3.below (BA.out u hu)) (r4.below (BA.out u hu)))
 have E3 : Hid (∀ u, OldB W u → Calls Tryz.prog 100 #[.agg (slL a.sla).toArray, .agg (slL b.sla).toArray] u fun e w' => e = .returned (.bool (sameS a.c.sla b.c.sla)) ∧ Below u.heap.size u w') := Lib.hid (fun u hu => seals_any a.sla b.sla u (h.sl.below (BA.out u hu)) (k.sl.below (BA.out u hu)) ha.sla hb.sla)
 have Sa : Hid (∀ u, OldB W u → u.rangeAt (w.heap.size) 11 (slL a.sla)) := Lib.hid (fun u hu => by have := rv_sla (r := a) (o := 0) (by have := range_of_row (XA u hu); simpa using this); simpa using this)
 have Sb : Hid (∀ u, OldB W u → u.rangeAt (w.heap.size + 1) 11 (slL b.sla)) := Lib.hid (fun u hu => by have := rv_sla (r := b) (o := 0) (by have := range_of_row (XB u hu); simpa using this); simpa using this)
 generalize (pubC a.c b.c && sameS a.c.sla b.c.sla) = R at *
 generalize decide (a.parents = b.parents) = q1 at *
 generalize all2 (fun a b => sameE a.c b.c) a.edits b.edits = q2 at *
 generalize sameS a.c.sla b.c.sla = q3 at *
 obtain ⟨HB, hHB⟩ : ∃ HB : Bool, HB = (decide (a.kind = b.kind) && (decide (a.author = b.author) && (decide (a.number = b.number) && (decide (a.clock = b.clock) && (decide (a.branch = b.branch) && (decide (a.target = b.target) && (decide (a.yes = b.yes) && (decide (a.order = b.order) && decide (a.frm = b.frm))))))))) := ⟨_, rfl⟩
 rw [← hHB] at SP
 have SO := Lib.hid hHB
 generalize (rvL a).toArray = xa at *
 generalize (rvL b).toArray = xb at *
 clear hHB h k ha hb v1 v2 v3 v4 r1 r2 r3 r4 XA XB HX HY HZ BW
 go_enter Tryz.func58, Tryz.ntmps58
 go_upto_region 1 with fail
 rw [← hW]
 clear hW
 go_cut [5] (fun s5 wx => s5 = .bool HB ∧ wx = W)
 case first =>
  by_cases h : a.kind = b.kind
  ·have e1 : (a.kind == b.kind) = true := by rw [h]; simp
   have SO1 : Hid (HB = (decide (a.author = b.author) && (decide (a.number = b.number) && (decide (a.clock = b.clock) && (decide (a.branch = b.branch) && (decide (a.target = b.target) && (decide (a.yes = b.yes) && (decide (a.order = b.order) && decide (a.frm = b.frm))))))))) := Lib.hid (by rw [SO.out, decide_eq_true h, Bool.true_and])
   clear SO h
   by_cases h : a.author = b.author
   ·have e2 : (a.author == b.author) = true := by rw [h]; simp
    have SO2 : Hid (HB = (decide (a.number = b.number) && (decide (a.clock = b.clock) && (decide (a.branch = b.branch) && (decide (a.target = b.target) && (decide (a.yes = b.yes) && (decide (a.order = b.order) && decide (a.frm = b.frm)))))))) := Lib.hid (by rw [SO1.out, decide_eq_true h, Bool.true_and])
    clear SO1 h
    by_cases h : a.number = b.number
    ·have e3 : (a.number == b.number) = true := by rw [h]; simp
     have SO3 : Hid (HB = (decide (a.clock = b.clock) && (decide (a.branch = b.branch) && (decide (a.target = b.target) && (decide (a.yes = b.yes) && (decide (a.order = b.order) && decide (a.frm = b.frm))))))) := Lib.hid (by rw [SO2.out, decide_eq_true h, Bool.true_and])
     clear SO2 h
     by_cases h : a.clock = b.clock
     ·have e4 : (a.clock == b.clock) = true := by rw [h]; simp
      have SO4 : Hid (HB = (decide (a.branch = b.branch) && (decide (a.target = b.target) && (decide (a.yes = b.yes) && (decide (a.order = b.order) && decide (a.frm = b.frm)))))) := Lib.hid (by rw [SO3.out, decide_eq_true h, Bool.true_and])
      clear SO3 h
      by_cases h : a.branch = b.branch
      ·have e5 : (a.branch == b.branch) = true := by rw [h]; simp
       have SO5 : Hid (HB = (decide (a.target = b.target) && (decide (a.yes = b.yes) && (decide (a.order = b.order) && decide (a.frm = b.frm))))) := Lib.hid (by rw [SO4.out, decide_eq_true h, Bool.true_and])
       clear SO4 h
       by_cases h : a.target = b.target
       ·have e6 : (a.target == b.target) = true := by rw [h]; simp
        have SO6 : Hid (HB = (decide (a.yes = b.yes) && (decide (a.order = b.order) && decide (a.frm = b.frm)))) := Lib.hid (by rw [SO5.out, decide_eq_true h, Bool.true_and])
        clear SO5 h
        by_cases h : a.yes = b.yes
        ·have e7 : (a.yes == b.yes) = true := by rw [h]; simp
         have SO7 : Hid (HB = (decide (a.order = b.order) && decide (a.frm = b.frm))) := Lib.hid (by rw [SO6.out, decide_eq_true h, Bool.true_and])
         clear SO6 h
         by_cases h : a.order = b.order
         ·have e8 : (a.order == b.order) = true := by rw [h]; simp
          have SO8 : Hid (HB = decide (a.frm = b.frm)) := Lib.hid (by rw [SO7.out, decide_eq_true h, Bool.true_and])
          clear SO7 h
          by_cases h : a.frm = b.frm
          ·have e9 : (a.frm == b.frm) = true := by rw [h]; simp
           have SO9 : Hid (HB = true) := Lib.hid (by rw [SO8.out, decide_eq_true h])
           clear SO8 h
           go_wp2_with fail
           go_meet
           exact ⟨by rw [SO9.out], rfl⟩
          ·have e9 : (a.frm == b.frm) = false := by simpa using h
           have RF : Hid (HB = false) := Lib.hid (by rw [SO8.out, decide_eq_false h])
           clear SO8 h
           go_wp2_with fail
           go_meet
           exact ⟨by rw [RF.out], rfl⟩
         ·have e8 : (a.order == b.order) = false := by simpa using h
          have RF : Hid (HB = false) := Lib.hid (by rw [SO7.out, decide_eq_false h, Bool.false_and])
          clear SO7 h
          go_wp2_with fail
          go_meet
          exact ⟨by rw [RF.out], rfl⟩
        ·have e7 : (a.yes == b.yes) = false := by simpa using h
         have RF : Hid (HB = false) := Lib.hid (by rw [SO6.out, decide_eq_false h, Bool.false_and])
         clear SO6 h
         go_wp2_with fail
         go_meet
         exact ⟨by rw [RF.out], rfl⟩
       ·have e6 : (a.target == b.target) = false := by simpa using h
        have RF : Hid (HB = false) := Lib.hid (by rw [SO5.out, decide_eq_false h, Bool.false_and])
        clear SO5 h
        go_wp2_with fail
        go_meet
        exact ⟨by rw [RF.out], rfl⟩
      ·have e5 : (a.branch == b.branch) = false := by simpa using h
       have RF : Hid (HB = false) := Lib.hid (by rw [SO4.out, decide_eq_false h, Bool.false_and])
       clear SO4 h
       go_wp2_with fail
       go_meet
       exact ⟨by rw [RF.out], rfl⟩
     ·have e4 : (a.clock == b.clock) = false := by simpa using h
      have RF : Hid (HB = false) := Lib.hid (by rw [SO3.out, decide_eq_false h, Bool.false_and])
      clear SO3 h
      go_wp2_with fail
      go_meet
      exact ⟨by rw [RF.out], rfl⟩
    ·have e3 : (a.number == b.number) = false := by simpa using h
     have RF : Hid (HB = false) := Lib.hid (by rw [SO2.out, decide_eq_false h, Bool.false_and])
     clear SO2 h
     go_wp2_with fail
     go_meet
     exact ⟨by rw [RF.out], rfl⟩
   ·have e2 : (a.author == b.author) = false := by simpa using h
    have RF : Hid (HB = false) := Lib.hid (by rw [SO1.out, decide_eq_false h, Bool.false_and])
    clear SO1 h
    go_wp2_with fail
    go_meet
    exact ⟨by rw [RF.out], rfl⟩
  ·have e1 : (a.kind == b.kind) = false := by simpa using h
   have RF : Hid (HB = false) := Lib.hid (by rw [SO.out, decide_eq_false h, Bool.false_and])
   clear SO h
   go_wp2_with fail
   go_meet
   exact ⟨by rw [RF.out], rfl⟩
 case rest =>
  obtain ⟨rfl, rfl⟩ := hcut
  cases HB
  ·have RF : Hid (R = false) := Lib.hid (by rw [SP.out, Bool.false_and])
   clear SP SO
   go_wp2_with fail
   go_ret
   exact ⟨by rw [RF.out]; rfl, BA.out _ SW⟩
  ·have SQ : Hid (R = (q1 && (q2 && q3))) := Lib.hid (by rw [SP.out, Bool.true_and])
   clear SP SO
   go_wp2_with fail
   (with_reducible refine (E1.out _ SW).mono ?_)
   rintro e u1 ⟨rfl, d1⟩
   have O1 : OldB _ u1 := SW.then d1
   clear d1 SW
   cases q1
   ·have RF : Hid (R = false) := Lib.hid (by rw [SQ.out, Bool.false_and])
    clear SQ
    go_wp2_with fail
    go_ret
    exact ⟨by rw [RF.out]; rfl, BA.out _ O1⟩
   ·have SO1 : Hid (R = (q2 && q3)) := Lib.hid (by rw [SQ.out, Bool.true_and])
    clear SQ
    go_wp2_with fail
    (with_reducible refine (E2.out _ O1).mono ?_)
    rintro e u2 ⟨rfl, d2⟩
    have O2 : OldB _ u2 := O1.then d2
    clear d2 O1
    cases q2
    ·have RF : Hid (R = false) := Lib.hid (by rw [SO1.out, Bool.false_and])
     clear SO1
     go_wp2_with fail
     go_ret
     exact ⟨by rw [RF.out]; rfl, BA.out _ O2⟩
    ·have SO2 : Hid (R = q3) := Lib.hid (by rw [SO1.out, Bool.true_and])
     clear SO1
     go_wp2_with (first | (refine wpList_load_midG (by simp [Region.wanted, yielded]; done) 51 (.tmp 83) rfl (w.heap.size) 11 rfl (slL a.sla) _ (Sa.out _ (by assumption)) Tryz.underlying51 rfl (by kernel_rfl) ?_) | (refine wpList_load_midG (by simp [Region.wanted, yielded]; done) 51 (.tmp 85) rfl (w.heap.size + 1) 11 rfl (slL b.sla) _ (Sb.out _ (by assumption)) Tryz.underlying51 rfl (by kernel_rfl) ?_))
     (with_reducible refine (E3.out _ O2).mono ?_)
     rintro e u3 ⟨rfl, d3⟩
     have O3 : OldB _ u3 := O2.then d3
     clear d3 O2
     go_wp2_with fail
     go_ret
     exact ⟨by rw [SO2.out]; rfl, BA.out _ O3⟩
end Go.Proofs.YtniklmikdkjgiaaGreatDoor
namespace Go.Proofs.YtniklmikdkjgiaaGreatDoor
open Go.RowKit
def pairB (L : List Rc) (a b : Rc) : Bool := (pubC a b && sameS a.sla b.sla) && (flagOf L a.author || (prvC a.priv b.priv && sameS a.priv.sla b.priv.sla))
def flagsEq (L M : List Rc) : Bool := (List.range 60).all fun i => askB L i == askB M i
def pubB (a b : List Rc) : Bool := flagsEq a b && all2 (pairB a) a b
theorem eqitems_row (d : Nat) (L M : List Rc) (w : World) : ∀ is : List Nat, (∀ i ∈ is, i < 60) → (Op.eqItems (d + 1) 4 1 (askRow L) (askRow M) is).run Tryz.prog w = .ok (is.all fun i => askB L i == askB M i) w
 | [], _ => by simp [Op.eqItems]
 | i :: is, h => by
  have hi := h i (by simp)
  have ih := eqitems_row d L M w is (fun j hj => h j (by simp [hj]))
  have p1 : (part 4 (askRow L) i).run Tryz.prog w = .ok (.bool (askB L i)) w := run_part_plain w (by kernel_rfl) (askRow_at L hi)
  have p2 : (part 4 (askRow M) i).run Tryz.prog w = .ok (.bool (askB M i)) w := run_part_plain w (by kernel_rfl) (askRow_at M hi)
  have p3 : ∀ x y : Bool, (Op.equalIn (d + 1) 4 (.bool x) (.bool y)).run Tryz.prog w = .ok (x == y) w := fun x y => by simp [Op.equalIn, run_underlying Tryz.underlying4]
  rw [Op.eqItems, Nat.mul_one, Sem.run_bind, p1, Result.andThen_ok, Sem.run_bind, p2, Result.andThen_ok, Sem.run_bind, p3, Result.andThen_ok, List.all_cons]
  cases askB L i == askB M i
  ·simp
  ·simpa using ih
theorem neq_row (L M : List Rc) (w : World) : (binOp .neq 77 (.agg (askRow L)) (.agg (askRow M))).run Tryz.prog w = .ok (.bool (!flagsEq L M)) w := by
 obtain ⟨i, hi⟩ := Option.isSome_iff_exists.1 (show (Tryz.prog.info? 4).isSome = true by kernel_rfl)
 have h := run_equalIn_array (P := Tryz.prog) (w := w) 9999 (n := 60) (i := i) (askRow L) (askRow M) Tryz.underlying77 hi
 have hc : Tryz.prog.cellsOf 4 = 1 := by kernel_rfl
 rw [hc] at h
 have := eqitems_row 9998 L M w (List.range 60) (fun i hi => List.mem_range.1 hi)
 rw [show (9998 + 1 : Nat) = 9999 from rfl] at this
 rw [this] at h
 simp only [binOp]
 simp [Op.equal, Op.maxDepth, h, flagsEq]
theorem public1_any (bm : Nat) (L : List Rc) (a b : RV) (w : World) (hm : w.heap[bm]? = some (.cells (askRow L) 77 (0, 0))) (h : RvIs w a) (k : RvIs w b) (ha : RcSz a.c) (hb : RcSz b.c) :
  Calls Tryz.prog 57 #[.agg (rvL a).toArray, .agg (rvL b).toArray, .pointer (some ⟨bm, 0, none⟩)] w fun e w' => e = .returned (.bool (pairB L a.c b.c)) ∧ Below w.heap.size w w' := by
 obtain ⟨W, hW⟩ : ∃ W, W = (w.alloc (.cells (rvL a).toArray 56)).alloc (.cells (rvL b).toArray 56) := ⟨_, rfl⟩
 have BW : Hid (Below w.heap.size w W) := Lib.hid (by rw [hW]; exact ((Below.refl _ _).alloc (Nat.le_refl _) _).alloc (by simp) _)
 have HX : Hid (W.heap[w.heap.size]? = some (.cells (rvL a).toArray 56 (0, 0))) := Lib.hid (by rw [hW]; exact (alloc_old _ _ (by simp)).trans (heap_alloc_new w _))
 have HY : Hid (W.heap[w.heap.size + 1]? = some (.cells (rvL b).toArray 56 (0, 0))) := Lib.hid (by rw [hW]; exact alloc_new' _ _ _ (by simp))
 have HZ : W.heap.size = w.heap.size + 2 := by rw [hW]; simp
 have BA : Hid (∀ u, OldB W u → Below w.heap.size w u) := Lib.hid (fun u hu => BW.out.trans (Below.mono hu BW.out.size))
 have XA := fun u (hu : OldB W u) => (hu.block w.heap.size (by omega)).trans HX.out
 have XB := fun u (hu : OldB W u) => (hu.block (w.heap.size + 1) (by omega)).trans HY.out
 have SW : OldB W W := Below.refl _ _
 have SO : Hid (pairB L a.c b.c = ((pubC a.c b.c && sameS a.c.sla b.c.sla) && (flagOf L a.author || (prvC a.c.priv b.c.priv && sameS a.c.priv.sla b.c.priv.sla)))) := Lib.hid rfl
 obtain ⟨K, hK⟩ : ∃ K : List Value, askRow L = K.toArray := ⟨(askRow L).toList, (Array.toArray_toList).symm⟩
 have hm' := (BW.out.block bm (lt_of_block hm)).trans hm
 have HA := fun u => has_any L a.author u
 have K2 : Hid (K.length = 60) := Lib.hid (by have := askRow_size L; rw [hK] at this; simpa using this)
 rw [hK] at HA hm'
 have hbm := lt_of_block hm'
 have RM : Hid (∀ u, OldB W u → u.rangeAt bm 0 K) := Lib.hid (fun u hu => by have := range_of_row ((hu.block bm hbm).trans hm'); simpa using this)
 have HH := Lib.hid HA
 have Ra : Hid (∀ u, OldB W u → u.rangeAt (w.heap.size) 0 (rvL a)) := Lib.hid (fun u hu => by have := range_of_row (XA u hu); simpa using this)
 have Pa : Hid (∀ u, OldB W u → u.rangeAt (w.heap.size) 14 (prL a)) := Lib.hid (fun u hu => by have := rv_prv (Ra.out u hu); simpa using this)
 have Rb : Hid (∀ u, OldB W u → u.rangeAt (w.heap.size + 1) 0 (rvL b)) := Lib.hid (fun u hu => by have := range_of_row (XB u hu); simpa using this)
 have Pb : Hid (∀ u, OldB W u → u.rangeAt (w.heap.size + 1) 14 (prL b)) := Lib.hid (fun u hu => by have := rv_prv (Rb.out u hu); simpa using this)
 have a1 : ∀ u, OldB W u → u.cell? ⟨w.heap.size, 1, none⟩ = some (.int .i64 a.author) := fun u hu => load_block (XA u hu) (by rfl)
 have E1 : Hid (∀ u, OldB W u → Calls Tryz.prog 58 #[.agg (rvL a).toArray, .agg (rvL b).toArray] u fun e w' => e = .returned (.bool (pubC a.c b.c && sameS a.c.sla b.c.sla)) ∧ Below u.heap.size u w') := Lib.hid (fun u hu => ppub_any a b u (h.below (BA.out u hu)) (k.below (BA.out u hu)) ha hb)
 have E2 : Hid (∀ u, OldB W u → Calls Tryz.prog 59 #[.agg (prL a).toArray, .agg (prL b).toArray] u fun e w' => e = .returned (.bool (prvC a.c.priv b.c.priv && sameS a.c.priv.sla b.c.priv.sla)) ∧ Below u.heap.size u w') := Lib.hid (fun u hu => pprv_any a b u (h.below (BA.out u hu)) (k.below (BA.out u hu)) ha hb)
 generalize pairB L a.c b.c = R at *
 generalize (pubC a.c b.c && sameS a.c.sla b.c.sla) = q1 at *
 generalize (prvC a.c.priv b.c.priv && sameS a.c.priv.sla b.c.priv.sla) = q3 at *
 generalize flagOf L a.author = q2 at *
 have Z60 : Hid ((Tryz.prog.info? 77).map (·.size) = some K.length) := Lib.hid (by rw [K2.out]; kernel_rfl)
 clear h k ha hb hm hm' hK HA XA XB HX HY HZ BW
 go_enter Tryz.func57, Tryz.ntmps57
 go_upto_region 1 with fail
 rw [← hW]
 clear hW
 go_wp2_with (first | (refine wpList_load_mid rfl 56 (.tmp 3) rfl (w.heap.size) 0 rfl (rvL a) _ (Ra.out _ (by assumption)) Tryz.underlying56 rfl (by kernel_rfl) ?_) | (refine wpList_load_mid rfl 56 (.tmp 4) rfl (w.heap.size + 1) 0 rfl (rvL b) _ (Rb.out _ (by assumption)) Tryz.underlying56 rfl (by kernel_rfl) ?_))
 (with_reducible refine (E1.out _ SW).mono ?_)
 rintro e u1 ⟨rfl, d1⟩
 have O1 : OldB W u1 := SW.then d1
 clear d1 SW
 cases q1
 ·have RF : Hid (R = false) := Lib.hid (by rw [SO.out, Bool.false_and])
  clear SO
  go_wp2_with fail
  go_ret
  exact ⟨by rw [RF.out]; rfl, BA.out _ O1⟩
 have SO1 : Hid (R = (q2 || q3)) := Lib.hid (by rw [SO.out, Bool.true_and])
 clear SO
 go_wp2_with (refine wpList_load_midG (by simp [Region.wanted, yielded]; done) 77 (.tmp 2) rfl bm 0 rfl K _ (RM.out _ (by assumption)) Tryz.underlying77 rfl Z60.out ?_)
 (with_reducible refine (HH.out _).mono ?_)
 rintro e u2 ⟨rfl, d2⟩
 have O2 : OldB W u2 := O1.then d2
 clear d2 O1
 cases q2
 ·have SO2 : Hid (R = q3) := Lib.hid (by rw [SO1.out, Bool.false_or])
  clear SO1
  go_wp2_with (first | (refine wpList_load_midG (by simp [Region.wanted, yielded]; done) 54 (.tmp 15) rfl (w.heap.size) 14 rfl (prL a) _ (Pa.out _ (by assumption)) Tryz.underlying54 rfl (by kernel_rfl) ?_) | (refine wpList_load_midG (by simp [Region.wanted, yielded]; done) 54 (.tmp 17) rfl (w.heap.size + 1) 14 rfl (prL b) _ (Pb.out _ (by assumption)) Tryz.underlying54 rfl (by kernel_rfl) ?_))
  (with_reducible refine (E2.out _ O2).mono ?_)
  rintro e u3 ⟨rfl, d3⟩
  have O3 : OldB W u3 := O2.then d3
  clear d3 O2
  go_wp2_with fail
  go_ret
  exact ⟨by rw [SO2.out]; rfl, BA.out _ O3⟩
 ·have RT : Hid (R = true) := Lib.hid (by rw [SO1.out, Bool.true_or])
  clear SO1
  go_wp2_with fail
  go_ret
  exact ⟨by rw [RT.out]; rfl, BA.out _ O2⟩
theorem eqfr_any (bm : Nat) (L : List Rc) (A B : Option Addr) (c d : Nat) (l m : List RV) (n1 n2 : Nat) (w : World) (hn1 : n1 = l.length) (hn2 : n2 = m.length) (h : Rs w A l) (h2 : Rs w B m) (hmem : w.heap[bm]? = some (.cells (askRow L) 77 (0, 0))) :
  Calls Tryz.prog 56 #[.slice A n1 c, .slice B n2 d, .func (.func 57) #[] #[.pointer (some ⟨bm, 0, none⟩)]] w fun e w' => e = .returned (.bool (all2 (fun a b => pairB L a.c b.c) l m)) ∧ Below w.heap.size w w' := by
 have HMEM := Lib.hid hmem
 clear hmem
 have hl : n1 ≤ 100000 := by rw [hn1]; exact h.len
 have hm : n2 ≤ 100000 := by rw [hn2]; exact h2.len
 have H := Lib.hid h
 have H2 := Lib.hid h2
 have HN := Lib.hid hn1
 have HM := Lib.hid hn2
 clear hn1 hn2 h h2
 obtain ⟨R, hR⟩ : ∃ R, all2 (fun a b => pairB L a.c b.c) l m = R := ⟨_, rfl⟩
 have HR := Lib.hid hR
 rw [hR]
 clear hR
 have B0 : Hid (Below w.heap.size w w) := Lib.hid (Below.refl _ _)
 by_cases hlen : n1 = n2
 ·have hq : ((n1 : Int) != (n2 : Int)) = false := by rw [hlen]; simp
  have HL := Lib.hid hlen
  have HR0 : Hid (R = all2 (fun a b => pairB L a.c b.c) (l.drop 0) (m.drop 0)) := Lib.hid HR.out.symm
  clear hlen HR
  go_enter Tryz.func56, Tryz.ntmps56
  go_wp2_with fail
  go_loopw [7, 8, 9, 17] (fun s7 s8 s9 i wr => ∃ k : Nat, k ≤ n1 ∧ i = .int .i64 (k : Int) ∧ (∃ p, s7 = p) ∧ (∃ p, s8 = p) ∧ (∃ p, s9 = p) ∧ Hid (R = all2 (fun a b => pairB L a.c b.c) (l.drop k) (m.drop k)) ∧ Hid (Below w.heap.size w wr)) (fun _ _ _ i _ => n1 - (intOf i).toNat)
  case atStart => exact ⟨0, Nat.zero_le _, rfl, ⟨_, rfl⟩, ⟨_, rfl⟩, ⟨_, rfl⟩, HR0, B0⟩
  case round =>
   clear B0 HR0
   obtain ⟨k, hk, rfl, ⟨p7, rfl⟩, ⟨p8, rfl⟩, ⟨p9, rfl⟩, HR, BL⟩ := hrel
   by_cases hlt : k < n1
   ·have hkl : k < l.length := by rw [← HN.out]; exact hlt
    have hkm : k < m.length := by rw [← HM.out, ← HL.out]; exact hlt
    have d1 : (k : Int) < (n1 : Int) := by omega
    have d3 : (k : Int) < (n2 : Int) := by have := HL.out; omega
    have d2 : (0 : Int) ≤ (k : Int) := by omega
    obtain ⟨b, off, rfl, hb, hc⟩ := rvs_at (H.out.rd.below BL.out) hkl
    obtain ⟨b', off', rfl, hb', hc'⟩ := rvs_at (H2.out.rd.below BL.out) hkm
    have HO := H.out.is l[k] (List.getElem_mem hkl)
    have HO' := H2.out.is m[k] (List.getElem_mem hkm)
    have SZ := H.out.sz l[k] (List.getElem_mem hkl)
    have SZ' := H2.out.sz m[k] (List.getElem_mem hkm)
    have HD : Hid (R = ((fun a b => pairB L a.c b.c) l[k] m[k] && all2 (fun a b => pairB L a.c b.c) (l.drop (k + 1)) (m.drop (k + 1)))) := Lib.hid (HR.out.trans (all2_drop hkl hkm))
    dsimp only at HD
    have LA : Hid (wr.rangeAt b (off + k * 21) (rvL l[k])) := Lib.hid (fun j v hj => hc j v hj)
    have LB0 : Hid (wr.rangeAt b' (off' + k * 21) (rvL m[k])) := Lib.hid (fun j v hj => hc' j v hj)
    clear HR hc hc'
    generalize l[k] = x at *
    generalize m[k] = y at *
    obtain ⟨X, hX⟩ : ∃ X, X = wr.alloc (.cells (rvL x).toArray 56) := ⟨_, rfl⟩
    obtain ⟨bx, hbx⟩ : ∃ bx, wr.heap.size = bx := ⟨_, rfl⟩
    obtain ⟨Y, hY⟩ : ∃ Y, Y = X.alloc (.cells (rvL y).toArray 56) := ⟨_, rfl⟩
    obtain ⟨bb, hbb⟩ : ∃ bb, X.heap.size = bb := ⟨_, rfl⟩
    have BX : Below wr.heap.size wr X := by rw [hX]; exact (Below.refl _ _).alloc (Nat.le_refl _) _
    have BY : Below X.heap.size X Y := by rw [hY]; exact (Below.refl _ _).alloc (Nat.le_refl _) _
    have OX : OldB wr X := BX
    have OY : OldB wr Y := OX.then BY
    have XX : X.heap[bx]? = some (.cells (rvL x).toArray 56 (0, 0)) := by rw [hX, ← hbx]; exact heap_alloc_new wr _
    have YY : Hid (Y.heap[bb]? = some (.cells (rvL y).toArray 56 (0, 0))) := Lib.hid (by rw [hY, ← hbb]; exact heap_alloc_new X _)
    have YX : Hid (Y.heap[bx]? = some (.cells (rvL x).toArray 56 (0, 0))) := Lib.hid ((BY.block bx (lt_of_block XX)).trans XX)
    have LB := Lib.hid (rangeAt_old hb' LB0.out X OX)
    have RX : Hid (Y.rangeAt bx 0 (rvL x)) := Lib.hid (by have := range_of_row YX.out; simpa using this)
    have RY : Hid (Y.rangeAt bb 0 (rvL y)) := Lib.hid (by have := range_of_row YY.out; simpa using this)
    have BW : Hid (Below w.heap.size w Y) := Lib.hid (BL.out.trans (Below.mono OY BL.out.size))
    have SM : Hid (Calls Tryz.prog 57 #[.agg (rvL x).toArray, .agg (rvL y).toArray, .pointer (some ⟨bm, 0, none⟩)] Y fun e w' => e = .returned (.bool (pairB L x.c y.c)) ∧ Below Y.heap.size Y w') := Lib.hid (public1_any bm L x y Y ((BW.out.block bm (lt_of_block HMEM.out)).trans HMEM.out) (HO.below BW.out) (HO'.below BW.out) SZ SZ')
    have ZX : Hid ((Tryz.prog.info? 56).map (·.size) = some (rvL x).length) := Lib.hid (by kernel_rfl)
    have ZY : Hid ((Tryz.prog.info? 56).map (·.size) = some (rvL y).length) := Lib.hid (by kernel_rfl)
    have ZXA : Hid ((Tryz.prog.info? 56).map (·.size) = some (rvL x).toArray.size) := Lib.hid (by kernel_rfl)
    have ZYA : Hid ((Tryz.prog.info? 56).map (·.size) = some (rvL y).toArray.size) := Lib.hid (by kernel_rfl)
    have NX : Hid ((rvL x).toArray.size ≤ 21) := Lib.hid (Nat.le_refl 21)
    have NY : Hid ((rvL y).toArray.size ≤ 21) := Lib.hid (Nat.le_refl 21)
    have OEX := Lib.hid (rvL_one x ⟨_, HO⟩)
    have OEY := Lib.hid (rvL_one y ⟨_, HO'⟩)
    have FX := Lib.hid (fun z (hz : z.length = 21) => setCells_freshG (P := Tryz.prog) wr 56 z (rvL x) ZXA.out (hz.trans rfl) OEX.out)
    have FY := Lib.hid (fun z (hz : z.length = 21) => setCells_freshG (P := Tryz.prog) X 56 z (rvL y) ZYA.out (hz.trans rfl) OEY.out)
    have X0 := Lib.hid hX
    have X1 := Lib.hid hbx
    have Y0 := Lib.hid hY
    have Y1 := Lib.hid hbb
    clear HO HO' SZ SZ' LB0 hX hbx hY hbb BX BY OX OY XX YY YX
    generalize pairB L x.c y.c = q at *
    generalize rvL x = xs at *
    generalize rvL y = ys at *
    go_wp2_with (first
     | (refine wpList_load_mid rfl 56 (.tmp 20) rfl b (off + k * 21) rfl xs _ LA.out Tryz.underlying56 rfl ZX.out ?_)
     | (refine wpList_load_mid rfl 56 (.tmp 24) rfl b' (off' + k * 21) rfl ys _ LB.out Tryz.underlying56 rfl ZY.out ?_)
     | (refine wpList_store_mid rfl 56 (.tmp 8) (.tmp 21) rfl wr.heap.size 0 xs.toArray rfl rfl (there_of_row (heap_alloc_new wr _) NX.out) ZXA.out OEX.out ?_; rw [List.toList_toArray, FX.out _ rfl, ← X0.out, X1.out])
     | (refine wpList_store_mid rfl 56 (.tmp 9) (.tmp 25) rfl X.heap.size 0 ys.toArray rfl rfl (there_of_row (heap_alloc_new X _) NY.out) ZYA.out OEY.out ?_; rw [List.toList_toArray, FY.out _ rfl, ← Y0.out, Y1.out])
     | (refine wpList_load_mid rfl 56 (.tmp 8) rfl bx 0 rfl xs _ RX.out Tryz.underlying56 rfl ZX.out ?_)
     | (refine wpList_load_mid rfl 56 (.tmp 9) rfl bb 0 rfl ys _ RY.out Tryz.underlying56 rfl ZY.out ?_))
    (with_reducible refine SM.out.mono ?_)
    rintro e u1 ⟨rfl, b1⟩
    have B2 := Lib.hid (BW.out.trans (b1.mono BW.out.size))
    clear b1 SM BW RX RY LA LB FX FY X0 X1 Y0 Y1
    cases q
    ·have RF : Hid (R = false) := Lib.hid (by rw [HD.out, Bool.false_and])
     clear HD
     go_wp2_with fail
     go_ret
     exact ⟨by rw [RF.out]; rfl, B2.out⟩
    ·have R2 : Hid (R = all2 (fun a b => pairB L a.c b.c) (l.drop (k + 1)) (m.drop (k + 1))) := Lib.hid (by rw [HD.out, Bool.true_and])
     clear HD
     go_wp2_with fail
     exact ⟨⟨k + 1, by omega, by go_num, ⟨_, rfl⟩, ⟨_, rfl⟩, ⟨_, rfl⟩, R2, B2⟩, by simp [intOf]; omega⟩
   ·have d1 : ¬ (k : Int) < (n1 : Int) := by omega
    have RT : Hid (R = true) := Lib.hid (HR.out.trans (all2_end (by rw [← HN.out]; omega) (by rw [← HM.out, ← HL.out]; omega)))
    clear HR
    go_wp2_with fail
    go_ret
    exact ⟨by rw [RT.out]; rfl, BL.out⟩
 ·have hq : ((n1 : Int) != (n2 : Int)) = true := by simp; omega
  have RF : Hid (R = false) := Lib.hid (HR.out.symm.trans (all2_ne (by rw [← HN.out, ← HM.out]; exact hlen)))
  clear hlen HR
  go_enter Tryz.func56, Tryz.ntmps56
  go_wp2_with fail
  go_ret
  exact ⟨by rw [RF.out]; rfl, B0.out⟩
theorem ppublic_any (A B : Option Addr) (c d : Nat) (l m : List RV) (n1 n2 : Nat) (w : World) (hn1 : n1 = l.length) (hn2 : n2 = m.length) (h : Rs w A l) (h2 : Rs w B m) (ht : Tab w) :
  Calls Tryz.prog 23 #[.slice A n1 c, .slice B n2 d] w fun e w' => e = .returned (.bool (pubB (rcsC l) (rcsC m))) ∧ Below w.heap.size w w' := by
 have AA := asked_any A n1 c l w hn1 h ht
 have AM := fun u (hu : Below w.heap.size w u) => asked_any B n2 d m u hn2 (h2.below hu) (ht.keep hu)
 have H := Lib.hid h
 have H2 := Lib.hid h2
 have HN := Lib.hid hn1
 have HM := Lib.hid hn2
 have PM : Hid (pubB (rcsC l) (rcsC m) = (flagsEq (rcsC l) (rcsC m) && all2 (fun a b => pairB (rcsC l) a.c b.c) l m)) := Lib.hid (by unfold pubB; rw [show all2 (pairB (rcsC l)) (rcsC l) (rcsC m) = all2 (fun a b => pairB (rcsC l) a.c b.c) l m from all2_map _ _ _ _])
 have NQ := fun u => neq_row (rcsC l) (rcsC m) u
 generalize pubB (rcsC l) (rcsC m) = R at *
 generalize flagsEq (rcsC l) (rcsC m) = q at *
 generalize rcsC l = L at *
 generalize rcsC m = M at *
 obtain ⟨K, hK⟩ : ∃ K : List Value, askRow L = K.toArray := ⟨(askRow L).toList, (Array.toArray_toList).symm⟩
 have HK := Lib.hid hK
 have K1 : (askRow L).all (·.oneCell') = true := Array.all_eq_true_iff_forall_mem.2 (fun v hv => by
  simp only [askRow, Array.mem_ofFn] at hv
  obtain ⟨i, rfl⟩ := hv
  rfl)
 have K2 : (askRow L).size = 60 := askRow_size _
 have K3 : (Tryz.prog.info? 77).map (·.size) = some 60 := by kernel_rfl
 rw [hK] at AA K1 K2 NQ
 have AB := Lib.hid AA
 have AN := Lib.hid AM
 have KA := Lib.hid K1
 have KB : Hid (K.length = 60) := Lib.hid (by simpa using K2)
 have FS := Lib.hid (fun (u : World) z (hz : z.length = 60) => setCells_freshG (P := Tryz.prog) u 77 z K (by rw [List.size_toArray, KB.out]; exact K3) (by rw [hz, KB.out]) K1)
 have SZ : Hid ((Tryz.prog.info? 77).map (·.size) = some K.toArray.size) := Lib.hid (by rw [List.size_toArray, KB.out]; exact K3)
 have SL : Hid ((Tryz.prog.info? 77).map (·.size) = some K.length) := Lib.hid (by rw [KB.out]; exact K3)
 generalize askRow M = K9 at *
 have NH := Lib.hid NQ
 clear h h2 hn1 hn2 ht hK AA AM K1 K2 K3 NQ
 go_enter Tryz.func23, Tryz.ntmps23
 go_wp2_with fail
 (with_reducible refine AB.out.mono ?_)
 rintro e u1 ⟨rfl, b1⟩
 obtain ⟨X, hX⟩ : ∃ X, X = u1.alloc (.cells K.toArray 77) := ⟨_, rfl⟩
 obtain ⟨bx, hbx⟩ : ∃ bx, u1.heap.size = bx := ⟨_, rfl⟩
 have BW : Hid (Below w.heap.size w X) := Lib.hid (by rw [hX]; exact b1.alloc b1.size _)
 have XX : X.heap[bx]? = some (.cells K.toArray 77 (0, 0)) := by rw [hX, ← hbx]; exact heap_alloc_new u1 _
 have XL := lt_of_block XX
 have RX : Hid (∀ u, OldB X u → u.rangeAt bx 0 K) := Lib.hid (fun u hu => by have := range_of_row ((hu.block bx XL).trans XX); simpa using this)
 rw [← HK.out] at XX
 have XH := Lib.hid XX
 have BA : Hid (∀ u, OldB X u → Below w.heap.size w u) := Lib.hid (fun u hu => BW.out.trans (Below.mono hu BW.out.size))
 have MM : Hid (∀ u, OldB X u → Calls Tryz.prog 56 #[.slice A n1 c, .slice B n2 d, .func (.func 57) #[] #[.pointer (some ⟨bx, 0, none⟩)]] u fun e w' => e = .returned (.bool (all2 (fun a b => pairB L a.c b.c) l m)) ∧ Below u.heap.size u w') := Lib.hid (fun u hu => eqfr_any bx L A B c d l m n1 n2 u HN.out HM.out (H.out.below (BA.out u hu)) (H2.out.below (BA.out u hu)) ((hu.block bx XL).trans XH.out))
 have X1 := Lib.hid hbx
 have X0 := Lib.hid hX
 generalize all2 (fun a b => pairB L a.c b.c) l m = q2 at *
 clear hX hbx XX AB b1 H HN H2 HM XL
 go_wp2_with (refine wpList_store_mid rfl 77 (.tmp 5) (.tmp 7) rfl u1.heap.size 0 K.toArray rfl rfl (there_of_row (heap_alloc_new u1 _) (by rw [List.size_toArray, KB.out]; exact Nat.le_refl _)) SZ.out KA.out ?_; rw [List.toList_toArray, FS.out u1 _ rfl, ← X0.out, X1.out])
 have NQ := NH.out
 (refine wp_region_noPanic ?_; refine wp_region_held_drew (S := (OldB X)) (by kernel_rfl) ?_ (fun hHeld => ?_); exact Below.drew (Below.refl _ _))
 (refine ldW 0 77 (.tmp 5) bx 0 K _ RX.out Tryz.underlying77 SL.out ?_; try simp only [gmS])
 (refine tkW 1 ?_; try simp only [gmS])
 (refine rdW 2 (fun K hK => ?_); go_simp)
 (with_reducible refine (AN.out _ (BA.out _ hHeld)).mono ?_)
 rintro e u2 ⟨rfl, b2⟩
 (refine hK.out _ _ (OldB.then hHeld b2) (fun hHeld2 => ?_); clear hK K hHeld; have hHeld := hHeld2; clear hHeld2; try simp only [gmS])
 (refine tkW 3 ?_; try simp only [gmS])
 have O2 : OldB X _ := hHeld
 (refine wpAnyH_done (by kernel_rfl) ?_ _; refine NoPanic.normal ?_)
 clear NQ
 cases q
 ·have RF : Hid (R = false) := Lib.hid (by rw [PM.out, Bool.false_and])
  clear PM
  go_wp2_with fail
  go_ret
  exact ⟨by rw [RF.out]; rfl, BA.out _ O2⟩
 ·have RP : Hid (R = q2) := Lib.hid (by rw [PM.out, Bool.true_and])
  clear PM
  go_wp2_with fail
  (with_reducible refine (MM.out _ O2).mono ?_)
  rintro e u3 ⟨rfl, b3⟩
  have O3 : OldB X u3 := O2.then b3
  clear b3 O2
  go_wp2_with fail
  go_ret
  exact ⟨by rw [RP.out]; rfl, BA.out _ O3⟩
end Go.Proofs.YtniklmikdkjgiaaGreatDoor
namespace Go.Proofs.YtniklmikdkjgiaaGreatDoor
open Go.RowKit
def cleanC (L : List Rc) (c : Rc) : Rc := if flagOf L c.author = true then bareC c else c
def cleanLC (l : List Rc) : List Rc := l.map (cleanC l)
theorem cleanC_author (L : List Rc) (c : Rc) : (cleanC L c).author = c.author := by unfold cleanC; split <;> rfl
theorem reqB_clean (L : List Rc) (c : Rc) : reqB (cleanC L c) = reqB c := by unfold cleanC; split <;> rfl
theorem askB_clean (L l : List Rc) (i : Nat) : askB (l.map (cleanC L)) i = askB l i := by
 unfold askB
 rw [List.any_map]
 congr 1
 funext c
 show (reqB (cleanC L c) && decide ((cleanC L c).author = (i : Int))) = _
 rw [reqB_clean, cleanC_author]
theorem flagOf_congr {L M : List Rc} (h : ∀ i, i < 60 → askB L i = askB M i) : flagOf L = flagOf M := by
 funext n
 unfold flagOf
 by_cases h0 : 0 ≤ n
 ·by_cases h6 : n < 60
  ·rw [h n.toNat (by omega)]
  ·rw [decide_eq_false h6, Bool.and_false, Bool.false_and, Bool.false_and]
 ·rw [decide_eq_false h0, Bool.false_and, Bool.false_and, Bool.false_and]
theorem cleanC_congr {L M : List Rc} (h : ∀ i, i < 60 → askB L i = askB M i) : cleanC L = cleanC M := by
 funext c; unfold cleanC; rw [flagOf_congr h]
theorem flagsEq_iff {L M : List Rc} : flagsEq L M = true ↔ ∀ i, i < 60 → askB L i = askB M i := by
 unfold flagsEq
 simp [List.all_eq_true]
theorem pub_iff (a b : Rc) : (pubC a b && sameS a.sla b.sla) = true ↔ bareC a = bareC b := by
 rw [← sameR_iff]
 unfold sameR
 have e1 : pubC (bareC a) (bareC b) = pubC a b := rfl
 have e2 : sameS (bareC a).sla (bareC b).sla = sameS a.sla b.sla := rfl
 have e3 : prvC (bareC a).priv (bareC b).priv = true := by simp [bareC, prvC]
 have e4 : sameS (bareC a).priv.sla (bareC b).priv.sla = true := by simp [bareC, sameS]
 rw [e1, e2, e3, e4, Bool.and_true, Bool.and_true]
theorem all_iff (a b : Rc) : ((pubC a b && sameS a.sla b.sla) && (prvC a.priv b.priv && sameS a.priv.sla b.priv.sla)) = true ↔ a = b := by
 rw [← sameR_iff, show sameR a b = ((pubC a b && sameS a.sla b.sla) && (prvC a.priv b.priv && sameS a.priv.sla b.priv.sla)) by unfold sameR; ac_rfl]
theorem pairB_iff (L : List Rc) (a b : Rc) : pairB L a b = true ↔ cleanC L a = cleanC L b := by
 unfold pairB
 by_cases h : flagOf L a.author = true
 ·have e : cleanC L a = bareC a := by unfold cleanC; rw [if_pos h]
  rw [h, Bool.true_or, Bool.and_true, pub_iff, e]
  constructor
  ·intro hb
   have ha : b.author = a.author := by have := congrArg Rc.author hb; exact this.symm
   rw [hb]; unfold cleanC; rw [ha, if_pos h]
  ·intro hb
   have ha : b.author = a.author := by have := congrArg Rc.author hb; rw [cleanC_author] at this; exact this.symm
   rw [hb]; unfold cleanC; rw [ha, if_pos h]
 ·have e : cleanC L a = a := by unfold cleanC; rw [if_neg h]
  rw [show flagOf L a.author = false by simpa using h, Bool.false_or, all_iff, e]
  constructor
  ·rintro rfl; exact e.symm
  ·intro hb
   have ha : b.author = a.author := by have := congrArg Rc.author hb; rw [cleanC_author] at this; exact this.symm
   rw [hb]; unfold cleanC; rw [ha, if_neg h]
theorem all2_image {α β : Type} {f : α → α → Bool} {g : α → β} (hf : ∀ a b, f a b = true ↔ g a = g b) : ∀ {l m : List α}, all2 f l m = true ↔ l.map g = m.map g
 | [], [] => by simp [all2]
 | a :: l, b :: m => by rw [all2, Bool.and_eq_true, hf, all2_image hf, List.map_cons, List.map_cons, List.cons.injEq]
 | [], _ :: _ => by simp [all2]
 | _ :: _, [] => by simp [all2]
theorem pubB_iff (a b : List Rc) : pubB a b = true ↔ cleanLC a = cleanLC b := by
 unfold pubB cleanLC
 rw [Bool.and_eq_true, all2_image (pairB_iff a)]
 constructor
 ·rintro ⟨h1, h2⟩
  rw [h2, cleanC_congr (flagsEq_iff.1 h1)]
 ·intro h
  have hf : ∀ i, i < 60 → askB a i = askB b i := fun i _ => by rw [← askB_clean a a i, h, askB_clean]
  exact ⟨flagsEq_iff.2 hf, by rw [h, cleanC_congr hf]⟩
end Go.Proofs.YtniklmikdkjgiaaGreatDoor
