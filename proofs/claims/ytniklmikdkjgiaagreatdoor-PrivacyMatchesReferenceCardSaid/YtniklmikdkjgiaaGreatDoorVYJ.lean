import Derived.Test.YtniklmikdkjgiaaGreatDoorCLD
import Derived.Test.YtniklmikdkjgiaaGreatDoorVXL
import Derived.Test.YtniklmikdkjgiaaGreatDoorVYG
import Derived.Test.YtniklmikdkjgiaaGreatDoorWD
set_option linter.all false
set_option maxHeartbeats 16000000
set_option maxRecDepth 100000
namespace Go.Proofs.YtniklmikdkjgiaaGreatDoor
open Go.RowKit
theorem rsamer_any (a b : RV) (w : World) (h : RvIs w a) (k : RvIs w b) (ha : RcSz a.c) (hb : RcSz b.c) :
  Calls Tryz.prog 39 #[.agg (rvL a).toArray, .agg (rvL b).toArray] w fun e w' => e = .returned (.bool (sameR a.c b.c)) ∧ Below w.heap.size w w' := by
 have SO : Hid (sameR a.c b.c = (pubC a.c b.c && (prvC a.c.priv b.c.priv && (sameS a.c.sla b.c.sla && sameS a.c.priv.sla b.c.priv.sla)))) := Lib.hid (by rw [show sameR a.c b.c = (pubC a.c b.c && prvC a.c.priv b.c.priv && sameS a.c.sla b.c.sla && sameS a.c.priv.sla b.c.priv.sla) from rfl]; simp only [Bool.and_assoc])
 obtain ⟨W, hW⟩ : ∃ W, W = (w.alloc (.cells (rvL a).toArray 56)).alloc (.cells (rvL b).toArray 56) := ⟨_, rfl⟩
 have BW : Hid (Below w.heap.size w W) := Lib.hid (by rw [hW]; exact ((Below.refl _ _).alloc (Nat.le_refl _) _).alloc (by simp) _)
 have HX : Hid (W.heap[w.heap.size]? = some (.cells (rvL a).toArray 56 (0, 0))) := Lib.hid (by rw [hW]; exact (alloc_old _ _ (by simp)).trans (heap_alloc_new w _))
 have HY : Hid (W.heap[w.heap.size + 1]? = some (.cells (rvL b).toArray 56 (0, 0))) := Lib.hid (by rw [hW]; exact alloc_new' _ _ _ (by simp))
 have HZ : W.heap.size = w.heap.size + 2 := by rw [hW]; simp
 have BA : Hid (∀ u, OldB W u → Below w.heap.size w u) := Lib.hid (fun u hu => BW.out.trans (Below.mono hu BW.out.size))
 have XA := fun u (hu : OldB W u) => (hu.block w.heap.size (by omega)).trans HX.out
 have XB := fun u (hu : OldB W u) => (hu.block (w.heap.size + 1) (by omega)).trans HY.out
 have SW : OldB W W := Below.refl _ _
 have Ra : ∀ u, OldB W u → u.rangeAt (w.heap.size) 0 (rvL a) := fun u hu => by have := range_of_row (XA u hu); simpa using this
 have Pa : ∀ u, OldB W u → u.rangeAt (w.heap.size) 14 (prL a) := fun u hu => by have := rv_prv (Ra u hu); simpa using this
 have Sa : ∀ u, OldB W u → u.rangeAt (w.heap.size) 11 (slL a.sla) := fun u hu => by have := rv_sla (Ra u hu); simpa using this
 have Ta : ∀ u, OldB W u → u.rangeAt (w.heap.size) 18 (slL a.pseal) := fun u hu => by have := rv_psl (Ra u hu); simpa using this
 have Rb : ∀ u, OldB W u → u.rangeAt (w.heap.size + 1) 0 (rvL b) := fun u hu => by have := range_of_row (XB u hu); simpa using this
 have Pb : ∀ u, OldB W u → u.rangeAt (w.heap.size + 1) 14 (prL b) := fun u hu => by have := rv_prv (Rb u hu); simpa using this
 have Sb : ∀ u, OldB W u → u.rangeAt (w.heap.size + 1) 11 (slL b.sla) := fun u hu => by have := rv_sla (Rb u hu); simpa using this
 have Tb : ∀ u, OldB W u → u.rangeAt (w.heap.size + 1) 18 (slL b.pseal) := fun u hu => by have := rv_psl (Rb u hu); simpa using this
 have E1 : Hid (∀ u, OldB W u → Calls Tryz.prog 60 #[.agg (rvL a).toArray, .agg (rvL b).toArray] u fun e w' => e = .returned (.bool (pubC a.c b.c)) ∧ Below u.heap.size u w') := Lib.hid (fun u hu => rpub_any a b u (h.below (BA.out u hu)) (k.below (BA.out u hu)) ha hb)
 have E2 : Hid (∀ u, OldB W u → Calls Tryz.prog 71 #[.agg (prL a).toArray, .agg (prL b).toArray] u fun e w' => e = .returned (.bool (prvC a.c.priv b.c.priv)) ∧ Below u.heap.size u w') := Lib.hid (fun u hu => rprv_any a b u (h.below (BA.out u hu)) (k.below (BA.out u hu)) ha hb)
 have E3 : Hid (∀ u, OldB W u → Calls Tryz.prog 61 #[.agg (slL a.sla).toArray, .agg (slL b.sla).toArray] u fun e w' => e = .returned (.bool (sameS a.c.sla b.c.sla)) ∧ Below u.heap.size u w') := Lib.hid (fun u hu => rseal_any a.sla b.sla u (h.sl.below (BA.out u hu)) (k.sl.below (BA.out u hu)) ha.sla hb.sla)
 have E4 : Hid (∀ u, OldB W u → Calls Tryz.prog 61 #[.agg (slL a.pseal).toArray, .agg (slL b.pseal).toArray] u fun e w' => e = .returned (.bool (sameS a.c.priv.sla b.c.priv.sla)) ∧ Below u.heap.size u w') := Lib.hid (fun u hu => rseal_any a.pseal b.pseal u (h.ps.below (BA.out u hu)) (k.ps.below (BA.out u hu)) ha.pseal hb.pseal)
 generalize sameR a.c b.c = R at *
 generalize pubC a.c b.c = q1 at *
 generalize prvC a.c.priv b.c.priv = q2 at *
 generalize sameS a.c.sla b.c.sla = q3 at *
 generalize sameS a.c.priv.sla b.c.priv.sla = q4 at *
 have HRa := Lib.hid Ra
 have HRb := Lib.hid Rb
 have HPa := Lib.hid Pa
 have HPb := Lib.hid Pb
 have HSa := Lib.hid Sa
 have HSb := Lib.hid Sb
 have HTa := Lib.hid Ta
 have HTb := Lib.hid Tb
 clear h k ha hb XA XB HX HY HZ BW Ra Rb Pa Pb Sa Sb Ta Tb
 go_enter Tryz.func39, Tryz.ntmps39
 go_upto_region 1 with fail
 rw [← hW]
 clear hW
 go_wp2_with (first | (refine wpList_load_mid rfl 56 (.tmp 2) rfl (w.heap.size) 0 rfl (rvL a) _ (HRa.out _ (by assumption)) Tryz.underlying56 rfl (by kernel_rfl) ?_) | (refine wpList_load_mid rfl 56 (.tmp 3) rfl (w.heap.size + 1) 0 rfl (rvL b) _ (HRb.out _ (by assumption)) Tryz.underlying56 rfl (by kernel_rfl) ?_))
 (with_reducible refine (E1.out _ SW).mono ?_)
 rintro e u1 ⟨rfl, d1⟩
 have O1 : OldB W u1 := SW.then d1
 clear d1 SW
 cases q1
 ·have RF : Hid (R = false) := Lib.hid (by rw [SO.out, Bool.false_and])
  clear SO
  go_wp2_with fail
  go_ret
  exact ⟨by rw [RF.out]; rfl, BA.out _ O1⟩
 ·have SO1 : Hid (R = (q2 && (q3 && q4))) := Lib.hid (by rw [SO.out, Bool.true_and])
  clear SO
  go_wp2_with (first | (refine wpList_load_midG (by simp [Region.wanted, yielded]; done) 54 (.tmp 9) rfl (w.heap.size) 14 rfl (prL a) _ (HPa.out _ (by assumption)) Tryz.underlying54 rfl (by kernel_rfl) ?_) | (refine wpList_load_midG (by simp [Region.wanted, yielded]; done) 54 (.tmp 11) rfl (w.heap.size + 1) 14 rfl (prL b) _ (HPb.out _ (by assumption)) Tryz.underlying54 rfl (by kernel_rfl) ?_))
  (with_reducible refine (E2.out _ O1).mono ?_)
  rintro e u2 ⟨rfl, d2⟩
  have O2 : OldB W u2 := O1.then d2
  clear d2 O1
  cases q2
  ·have RF : Hid (R = false) := Lib.hid (by rw [SO1.out, Bool.false_and])
   clear SO1
   go_wp2_with fail
   go_ret
   exact ⟨by rw [RF.out]; rfl, BA.out _ O2⟩
  ·have SO2 : Hid (R = (q3 && q4)) := Lib.hid (by rw [SO1.out, Bool.true_and])
   clear SO1
   go_wp2_with (first | (refine wpList_load_midG (by simp [Region.wanted, yielded]; done) 51 (.tmp 16) rfl (w.heap.size) 11 rfl (slL a.sla) _ (HSa.out _ (by assumption)) Tryz.underlying51 rfl (by kernel_rfl) ?_) | (refine wpList_load_midG (by simp [Region.wanted, yielded]; done) 51 (.tmp 18) rfl (w.heap.size + 1) 11 rfl (slL b.sla) _ (HSb.out _ (by assumption)) Tryz.underlying51 rfl (by kernel_rfl) ?_))
   (with_reducible refine (E3.out _ O2).mono ?_)
   rintro e u3 ⟨rfl, d3⟩
   have O3 : OldB W u3 := O2.then d3
   clear d3 O2
   cases q3
   ·have RF : Hid (R = false) := Lib.hid (by rw [SO2.out, Bool.false_and])
    clear SO2
    go_wp2_with fail
    go_ret
    exact ⟨by rw [RF.out]; rfl, BA.out _ O3⟩
   ·have SO3 : Hid (R = q4) := Lib.hid (by rw [SO2.out, Bool.true_and])
    clear SO2
    go_wp2_with (first | (refine wpList_load_midG (by simp [Region.wanted, yielded]; done) 51 (.tmp 24) rfl (w.heap.size) 18 rfl (slL a.pseal) _ (HTa.out _ (by assumption)) Tryz.underlying51 rfl (by kernel_rfl) ?_) | (refine wpList_load_midG (by simp [Region.wanted, yielded]; done) 51 (.tmp 27) rfl (w.heap.size + 1) 18 rfl (slL b.pseal) _ (HTb.out _ (by assumption)) Tryz.underlying51 rfl (by kernel_rfl) ?_))
    (with_reducible refine (E4.out _ O3).mono ?_)
    rintro e u4 ⟨rfl, d4⟩
    have O4 : OldB W u4 := O3.then d4
    clear d4 O3
    go_wp2_with fail
    go_ret
    exact ⟨by rw [SO3.out]; rfl, BA.out _ O4⟩
theorem rsameall_any (A B : Option Addr) (c d : Nat) (l m : List RV) (n1 n2 : Nat) (w : World) (hn1 : n1 = l.length) (hn2 : n2 = m.length) (h : Rs w A l) (h2 : Rs w B m) :
  Calls Tryz.prog 20 #[.slice A n1 c, .slice B n2 d] w fun e w' => e = .returned (.bool (all2 (fun a b => sameR a.c b.c) l m)) ∧ Below w.heap.size w w' := by
 have hl : n1 ≤ 100000 := by rw [hn1]; exact h.len
 have hm : n2 ≤ 100000 := by rw [hn2]; exact h2.len
 have H := Lib.hid h
 have H2 := Lib.hid h2
 have HN := Lib.hid hn1
 have HM := Lib.hid hn2
 clear hn1 hn2 h h2
 obtain ⟨R, hR⟩ : ∃ R, all2 (fun a b => sameR a.c b.c) l m = R := ⟨_, rfl⟩
 have HR := Lib.hid hR
 rw [hR]
 clear hR
 have B0 : Hid (Below w.heap.size w w) := Lib.hid (Below.refl _ _)
 by_cases hlen : n1 = n2
 ·have hq : ((n1 : Int) != (n2 : Int)) = false := by rw [hlen]; simp
  have HL := Lib.hid hlen
  have HR0 : Hid (R = all2 (fun a b => sameR a.c b.c) (l.drop 0) (m.drop 0)) := Lib.hid HR.out.symm
  clear hlen HR
  go_enter Tryz.func20, Tryz.ntmps20
  go_wp2_with fail
  go_loopw [5] (fun i wr => ∃ k : Nat, k ≤ n1 ∧ i = .int .i64 (k : Int) ∧ Hid (R = all2 (fun a b => sameR a.c b.c) (l.drop k) (m.drop k)) ∧ Hid (Below w.heap.size w wr)) (fun i _ => n1 - (intOf i).toNat)
  case atStart => exact ⟨0, Nat.zero_le _, rfl, HR0, B0⟩
  case round =>
   clear B0 HR0
   obtain ⟨k, hk, rfl, HR, BL⟩ := hrel
   by_cases hlt : k < n1
   ·have hkl : k < l.length := by rw [← HN.out]; exact hlt
    have hkm : k < m.length := by rw [← HM.out, ← HL.out]; exact hlt
    have d1 : (k : Int) < (n1 : Int) := by omega
    have d3 : (k : Int) < (n2 : Int) := by have := HL.out; omega
    have d2 : (0 : Int) ≤ (k : Int) := by omega
    obtain ⟨b, off, rfl, hb, hc⟩ := rvs_at (H.out.rd.below BL.out) hkl
    obtain ⟨b', off', rfl, hb', hc'⟩ := rvs_at (H2.out.rd.below BL.out) hkm
    have LA := Lib.hid (rangeAt_old (cs := rvL l[k]) hb (fun j v hv => hc j v hv))
    have LB := Lib.hid (rangeAt_old (cs := rvL m[k]) hb' (fun j v hv => hc' j v hv))
    have HO := H.out.is l[k] (List.getElem_mem hkl)
    have HO' := H2.out.is m[k] (List.getElem_mem hkm)
    have SZ := H.out.sz l[k] (List.getElem_mem hkl)
    have SZ' := H2.out.sz m[k] (List.getElem_mem hkm)
    have HD : Hid (R = (sameR l[k].c m[k].c && all2 (fun a b => sameR a.c b.c) (l.drop (k + 1)) (m.drop (k + 1)))) := Lib.hid (HR.out.trans (all2_drop hkl hkm))
    clear HR hc hc'
    generalize l[k] = x at *
    generalize m[k] = y at *
    have SM : Hid (∀ u, OldB wr u → Calls Tryz.prog 39 #[.agg (rvL x).toArray, .agg (rvL y).toArray] u fun e w' => e = .returned (.bool (sameR x.c y.c)) ∧ Below u.heap.size u w') := Lib.hid (fun u hu => rsamer_any x y u (HO.below (BL.out.trans (Below.mono hu BL.out.size))) (HO'.below (BL.out.trans (Below.mono hu BL.out.size))) SZ SZ')
    clear HO HO' SZ SZ'
    have ZX : (Tryz.prog.info? 56).map (·.size) = some (rvL x).length := by kernel_rfl
    have ZY : (Tryz.prog.info? 56).map (·.size) = some (rvL y).length := by kernel_rfl
    generalize rvL x = xs at *
    generalize rvL y = ys at *
    generalize sameR x.c y.c = q at *
    go_wp2_with fail
    (refine wp_region_noPanic ?_; refine wp_region_held_drew (S := (OldB wr)) (by kernel_rfl) ?_ (fun hHeld => ?_); exact Below.drew (Below.refl _ _))
    (refine tkW 0 ?_; try simp only [gmS])
    (refine tkW 1 ?_; try simp only [gmS])
    (refine tkW 2 ?_; try simp only [gmS])
    (refine ldW 3 56 (.tmp 19) b (off + k * 21) xs _ LA.out Tryz.underlying56 ZX ?_; try simp only [gmS])
    (refine tkW 4 ?_; try simp only [gmS])
    (refine tkW 5 ?_; try simp only [gmS])
    (refine tkW 6 ?_; try simp only [gmS])
    (refine ldW 7 56 (.tmp 23) b' (off' + k * 21) ys _ LB.out Tryz.underlying56 ZY ?_; try simp only [gmS])
    (refine rdW 8 (fun K hK => ?_); go_simp)
    (with_reducible refine (SM.out _ hHeld).mono ?_)
    rintro e w1 ⟨rfl, b1⟩
    (refine hK.out _ _ (OldB.then hHeld b1) (fun hHeld2 => ?_); clear hK K hHeld; have hHeld := hHeld2; clear hHeld2; try simp only [gmS])
    (refine tkW 9 ?_; try simp only [gmS])
    have B1 := Lib.hid (BL.out.trans (Below.mono hHeld BL.out.size))
    (refine wpAnyH_done (by kernel_rfl) ?_ _; refine NoPanic.normal ?_)
    clear hHeld SM LA LB
    cases q
    ·have RF : Hid (R = false) := Lib.hid (by rw [HD.out, Bool.false_and])
     clear HD
     go_wp2_with fail
     go_ret
     exact ⟨by rw [RF.out]; rfl, B1.out⟩
    ·have R2 : Hid (R = all2 (fun a b => sameR a.c b.c) (l.drop (k + 1)) (m.drop (k + 1))) := Lib.hid (by rw [HD.out, Bool.true_and])
     clear HD
     go_wp2_with fail
     exact ⟨⟨k + 1, by omega, by go_num, R2, B1⟩, by simp [intOf]; omega⟩
   ·have d1 : ¬ (k : Int) < (n1 : Int) := by omega
    have RT : Hid (R = true) := Lib.hid (HR.out.trans (all2_end (by rw [← HN.out]; omega) (by rw [← HM.out, ← HL.out]; omega)))
    clear HR
    go_wp2_with fail
    go_ret
    exact ⟨by rw [RT.out]; rfl, BL.out⟩
 ·have hq : ((n1 : Int) != (n2 : Int)) = true := by simp; omega
  have RF : Hid (R = false) := Lib.hid (HR.out.symm.trans (all2_ne (by rw [← HN.out, ← HM.out]; exact hlen)))
  clear hlen HR
  go_enter Tryz.func20, Tryz.ntmps20
  go_wp2_with fail
  go_ret
  exact ⟨by rw [RF.out]; rfl, B0.out⟩
end Go.Proofs.YtniklmikdkjgiaaGreatDoor
