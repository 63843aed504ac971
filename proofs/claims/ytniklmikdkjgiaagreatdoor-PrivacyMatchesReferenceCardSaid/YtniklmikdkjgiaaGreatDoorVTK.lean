import Derived.Test.YtniklmikdkjgiaaGreatDoorCLD
import Derived.Test.YtniklmikdkjgiaaGreatDoorVTJ
import Derived.Test.YtniklmikdkjgiaaGreatDoorVXJ
import Derived.Test.YtniklmikdkjgiaaGreatDoorCXN
import Derived.Test.YtniklmikdkjgiaaGreatDoorVYW
import Derived.Test.YtniklmikdkjgiaaGreatDoorWD
set_option linter.all false
set_option maxHeartbeats 16000000
set_option maxRecDepth 100000
namespace Go.Proofs.YtniklmikdkjgiaaGreatDoor
open Go.RowKit
theorem refP_pair (L : List Rc) (a b : Rc) : ((pubC a b && sameS a.sla b.sla) && (flagOf L a.author || sameR a b)) = pairB L a b := by
 unfold pairB sameR
 cases pubC a b <;> cases sameS a.sla b.sla <;> simp
theorem pubR_eq (a b : List Rc) : all2 (pairB a) a b = pubB a b := by
 refine bool_iff ?_
 rw [all2_image (pairB_iff a), pubB_iff]
 constructor
 ·intro h
  have e : cleanC a = cleanC b := cleanC_congr fun i _ => by
   have := congrArg (fun l => askB l i) h
   simpa [askB_clean] using this
  unfold cleanLC
  rw [← e]; exact h
 ·intro h
  unfold cleanLC at h
  have e : cleanC a = cleanC b := cleanC_congr fun i _ => by
   have := congrArg (fun l => askB l i) h
   simpa [askB_clean] using this
  rw [← e] at h; exact h
theorem seal_range {w : World} {b o : Nat} {r : RV} (h : w.rangeAt b o (rvL r)) : w.rangeAt b (o + 11) (slL r.sla) := range_sub 11 h (fun j v hv => by
 rcases j with _ | _ | _ | j
 ·exact hv
 ·exact hv
 ·exact hv
 ·cases hv)
theorem seal_sz (s : SlV) : (Tryz.prog.info? 51).map (·.size) = some (slL s).length := by kernel_rfl
theorem rec_sz (r : RV) : (Tryz.prog.info? 56).map (·.size) = some (rvL r).length := by kernel_rfl
theorem public49_any (A B : Option Addr) (c d : Nat) (l m : List RV) (n1 n2 : Nat) (w : World) (hn1 : n1 = l.length) (hn2 : n2 = m.length) (h : Rs w A l) (h2 : Rs w B m) :
  Calls Tryz.prog 24 #[.slice A n1 c, .slice B n2 d] w fun e w' => e = .returned (.bool (pubB (rcsC l) (rcsC m))) ∧ Below w.heap.size w w' := by
 have hl : n1 ≤ 100000 := by rw [hn1]; exact h.len
 have hm : n2 ≤ 100000 := by rw [hn2]; exact h2.len
 have H := Lib.hid h
 have H2 := Lib.hid h2
 have HN := Lib.hid hn1
 have HM := Lib.hid hn2
 have AA : Hid (∀ (i : Int) (u : World), Below w.heap.size w u → Calls Tryz.prog 50 #[.slice A n1 c, .int .i64 i] u fun e w' => e = .returned (.bool (flagOf (rcsC l) i)) ∧ Below u.heap.size u w') := Lib.hid (fun i u hu => asked49_any A n1 c l i u hn1 (h.below hu))
 obtain ⟨R, hR⟩ : ∃ R, pubB (rcsC l) (rcsC m) = R := ⟨_, rfl⟩
 have HR : Hid (all2 (fun a b => pairB (rcsC l) a.c b.c) l m = R) := Lib.hid (by rw [← hR, ← pubR_eq]; exact (all2_map (f := pairB (rcsC l)) RV.c RV.c _ _).symm)
 generalize hL : rcsC l = L at *
 rw [hR]
 have B0 : Hid (Below w.heap.size w w) := Lib.hid (Below.refl _ _)
 clear h h2 hn1 hn2 hR hL
 by_cases hlen : n1 = n2
 rotate_left
 ·have hq : ((n1 : Int) != (n2 : Int)) = true := by simp; omega
  have RF : Hid (R = false) := Lib.hid (HR.out.symm.trans (all2_ne (by rw [← HN.out, ← HM.out]; exact hlen)))
  clear hlen HR
  go_enter Tryz.func24, Tryz.ntmps24
  go_wp2_with fail
  go_ret
  exact ⟨by rw [RF.out]; rfl, B0.out⟩
 have hq : ((n1 : Int) != (n2 : Int)) = false := by rw [hlen]; simp
 have HL := Lib.hid hlen
 have HR0 : Hid (R = all2 (fun a b => pairB L a.c b.c) (l.drop 0) (m.drop 0)) := Lib.hid HR.out.symm
 clear hlen HR
 go_enter Tryz.func24, Tryz.ntmps24
 go_wp2_with fail
 go_loopw [5] (fun i wr => ∃ k : Nat, k ≤ n1 ∧ i = .int .i64 (k : Int) ∧ Hid (R = all2 (fun a b => pairB L a.c b.c) (l.drop k) (m.drop k)) ∧ Hid (Below w.heap.size w wr)) (fun i _ => n1 - (intOf i).toNat)
 case atStart => exact ⟨0, Nat.zero_le _, rfl, HR0, B0⟩
 case round =>
  clear B0 HR0
  obtain ⟨k, hk, rfl, HR, BL⟩ := hrel
  by_cases hlt : k < n1
  rotate_left
  ·have d1 : ¬ (k : Int) < (n1 : Int) := by omega
   have RT : Hid (R = true) := Lib.hid (HR.out.trans (all2_end (by rw [← HN.out]; omega) (by rw [← HM.out, ← HL.out]; omega)))
   clear HR
   go_wp2_with fail
   go_ret
   exact ⟨by rw [RT.out]; rfl, BL.out⟩
  have hkl : k < l.length := by rw [← HN.out]; exact hlt
  have hkm : k < m.length := by rw [← HM.out, ← HL.out]; exact hlt
  have d1 : (k : Int) < (n1 : Int) := by omega
  have d3 : (k : Int) < (n2 : Int) := by have := HL.out; omega
  have d2 : (0 : Int) ≤ (k : Int) := by omega
  obtain ⟨b, off, rfl, hb, hc⟩ := rvs_at (H.out.rd.below BL.out) hkl
  obtain ⟨b', off', rfl, hb', hc'⟩ := rvs_at (H2.out.rd.below BL.out) hkm
  have HC : wr.rangeAt b (off + k * 21) (rvL l[k]) := fun j v hj => hc j v hj
  have HC' : wr.rangeAt b' (off' + k * 21) (rvL m[k]) := fun j v hj => hc' j v hj
  have LA := Lib.hid (rangeAt_old hb HC)
  have LB := Lib.hid (rangeAt_old hb' HC')
  have SA := Lib.hid (rangeAt_old hb (seal_range HC))
  have SB := Lib.hid (rangeAt_old hb' (seal_range HC'))
  have HD : Hid (R = (pairB L l[k].c m[k].c && all2 (fun a b => pairB L a.c b.c) (l.drop (k + 1)) (m.drop (k + 1)))) := Lib.hid (HR.out.trans (all2_drop hkl hkm))
  have I1 := H.out.is l[k] (List.getElem_mem hkl)
  have I2 := H2.out.is m[k] (List.getElem_mem hkm)
  have S1 := H.out.sz l[k] (List.getElem_mem hkl)
  have S2 := H2.out.sz m[k] (List.getElem_mem hkm)
  clear HR hc hc' HC HC'
  generalize l[k] = x at *
  generalize m[k] = y at *
  have PK : Hid (pairB L x.c y.c = ((pubC x.c y.c && sameS x.c.sla y.c.sla) && (flagOf L x.c.author || sameR x.c y.c))) := Lib.hid (refP_pair _ _ _).symm
  have BU : Hid (∀ u, OldB wr u → Below w.heap.size w u) := Lib.hid (fun u hu => BL.out.trans (Below.mono hu BL.out.size))
  have C1 : Hid (∀ u, OldB wr u → Calls Tryz.prog 60 #[.agg (rvL x).toArray, .agg (rvL y).toArray] u fun e w' => e = .returned (.bool (pubC x.c y.c)) ∧ Below u.heap.size u w') := Lib.hid (fun u hu => rpub_any x y u (I1.below (BU.out u hu)) (I2.below (BU.out u hu)) S1 S2)
  have C2 : Hid (∀ u, OldB wr u → Calls Tryz.prog 61 #[.agg (slL x.sla).toArray, .agg (slL y.sla).toArray] u fun e w' => e = .returned (.bool (sameS x.c.sla y.c.sla)) ∧ Below u.heap.size u w') := Lib.hid (fun u hu => rseal_any x.sla y.sla u (I1.sl.below (BU.out u hu)) (I2.sl.below (BU.out u hu)) S1.sla S2.sla)
  have C3 : Hid (∀ u, OldB wr u → Calls Tryz.prog 50 #[.slice (some ⟨b, off, none⟩) n1 c, .int .i64 x.author] u fun e w' => e = .returned (.bool (flagOf L x.c.author)) ∧ Below u.heap.size u w') := Lib.hid (fun u hu => AA.out x.author u (BU.out u hu))
  have C4 : Hid (∀ u, OldB wr u → Calls Tryz.prog 39 #[.agg (rvL x).toArray, .agg (rvL y).toArray] u fun e w' => e = .returned (.bool (sameR x.c y.c)) ∧ Below u.heap.size u w') := Lib.hid (fun u hu => rsamer_any x y u (I1.below (BU.out u hu)) (I2.below (BU.out u hu)) S1 S2)
  have ca : ∀ u, OldB wr u → u.cell? ⟨b, off + k * 21 + 1, none⟩ = some (.int .i64 x.author) := fun u hu => LA.out u hu 1 _ rfl
  clear I1 I2 S1 S2 AA
  have ZX := Lib.hid (rec_sz x)
  have ZY := Lib.hid (rec_sz y)
  have ZS := Lib.hid (seal_sz x.sla)
  have ZT := Lib.hid (seal_sz y.sla)
  generalize x.author = xa at *
  generalize rvL x = xs at *
  generalize rvL y = ys at *
  generalize slL x.sla = xl at *
  generalize slL y.sla = yl at *
  generalize pubC x.c y.c = q1 at *
  generalize sameS x.c.sla y.c.sla = q2 at *
  generalize flagOf L x.c.author = q3 at *
  generalize sameR x.c y.c = q4 at *
  rw [PK.out] at HD
  clear PK
  go_upto_region 6 with fail
  (refine wp_region_noPanic ?_; refine wp_region_held_drew (S := (OldB wr)) (by kernel_rfl) ?_ (fun hHeld => ?_); exact Below.drew (Below.refl _ _))
  (refine tkW 0 ?_; try simp only [gmS])
  (refine tkW 1 ?_; try simp only [gmS])
  (refine tkW 2 ?_; try simp only [gmS])
  (refine ldW 3 56 (.tmp 19) b (off + k * 21) xs _ LA.out Tryz.underlying56 ZX.out ?_; try simp only [gmS])
  (refine tkW 4 ?_; try simp only [gmS])
  (refine tkW 5 ?_; try simp only [gmS])
  (refine tkW 6 ?_; try simp only [gmS])
  (refine ldW 7 56 (.tmp 23) b' (off' + k * 21) ys _ LB.out Tryz.underlying56 ZY.out ?_; try simp only [gmS])
  (refine rdW 8 (fun K hK => ?_); go_simp)
  (with_reducible refine (C1.out _ hHeld).mono ?_)
  rintro e w1 ⟨rfl, b1⟩
  (refine hK.out _ _ (OldB.then hHeld b1) (fun hHeld2 => ?_); clear hK K hHeld; have hHeld := hHeld2; clear hHeld2; try simp only [gmS])
  (refine tkW 9 ?_; try simp only [gmS])
  (refine tkW 10 ?_; try simp only [gmS])
  cases q1
  ·skip
   (refine skW 11 ?_; try simp only [gmS])
   (refine skW 12 ?_; try simp only [gmS])
   (refine skW 13 ?_; try simp only [gmS])
   (refine skW 14 ?_; try simp only [gmS])
   (refine skW 15 ?_; try simp only [gmS])
   (refine skW 16 ?_; try simp only [gmS])
   (refine skW 17 ?_; try simp only [gmS])
   (refine skW 18 ?_; try simp only [gmS])
   (refine skW 19 ?_; try simp only [gmS])
   (refine skW 20 ?_; try simp only [gmS])
   (refine skW 21 ?_; try simp only [gmS])
   (refine skW 22 ?_; try simp only [gmS])
   (refine tkW 23 ?_; try simp only [gmS])
   (refine tkW 24 ?_; try simp only [gmS])
   (refine skW 25 ?_; try simp only [gmS])
   (refine skW 26 ?_; try simp only [gmS])
   (refine skW 27 ?_; try simp only [gmS])
   (refine skW 28 ?_; try simp only [gmS])
   (refine skW 29 ?_; try simp only [gmS])
   (refine skW 30 ?_; try simp only [gmS])
   (refine skW 31 ?_; try simp only [gmS])
   (refine skW 32 ?_; try simp only [gmS])
   (refine skW 33 ?_; try simp only [gmS])
   (refine skW 34 ?_; try simp only [gmS])
   (refine skW 35 ?_; try simp only [gmS])
   (refine skW 36 ?_; try simp only [gmS])
   (refine skW 37 ?_; try simp only [gmS])
   (refine skW 38 ?_; try simp only [gmS])
   (refine skW 39 ?_; try simp only [gmS])
   (refine skW 40 ?_; try simp only [gmS])
   (refine skW 41 ?_; try simp only [gmS])
   (refine skW 42 ?_; try simp only [gmS])
   (refine skW 43 ?_; try simp only [gmS])
   (refine skW 44 ?_; try simp only [gmS])
   (refine tkW 45 ?_; try simp only [gmS])
   have B1 := Lib.hid (BU.out _ hHeld)
   (refine wpAnyH_done (by kernel_rfl) ?_ _; refine NoPanic.normal ?_)
   have RF : Hid (R = false) := Lib.hid (by rw [HD.out]; simp)
   clear HD hHeld
   go_wp2_with fail
   go_ret
   exact ⟨by rw [RF.out]; rfl, B1.out⟩
  (refine tkW 11 ?_; try simp only [gmS])
  (refine tkW 12 ?_; try simp only [gmS])
  (refine tkW 13 ?_; try simp only [gmS])
  (refine tkW 14 ?_; try simp only [gmS])
  (refine ldW 15 51 (.tmp 31) b (off + k * 21 + 11) xl _ SA.out Tryz.underlying51 ZS.out ?_; try simp only [gmS])
  (refine tkW 16 ?_; try simp only [gmS])
  (refine tkW 17 ?_; try simp only [gmS])
  (refine tkW 18 ?_; try simp only [gmS])
  (refine tkW 19 ?_; try simp only [gmS])
  (refine ldW 20 51 (.tmp 36) b' (off' + k * 21 + 11) yl _ SB.out Tryz.underlying51 ZT.out ?_; try simp only [gmS])
  (refine rdW 21 (fun K hK => ?_); go_simp)
  (with_reducible refine (C2.out _ hHeld).mono ?_)
  rintro e w2 ⟨rfl, b2⟩
  (refine hK.out _ _ (OldB.then hHeld b2) (fun hHeld2 => ?_); clear hK K hHeld; have hHeld := hHeld2; clear hHeld2; try simp only [gmS])
  (refine tkW 22 ?_; try simp only [gmS])
  (refine tkW 23 ?_; try simp only [gmS])
  (refine tkW 24 ?_; try simp only [gmS])
  cases q2
  ·skip
   (refine skW 25 ?_; try simp only [gmS])
   (refine skW 26 ?_; try simp only [gmS])
   (refine skW 27 ?_; try simp only [gmS])
   (refine skW 28 ?_; try simp only [gmS])
   (refine skW 29 ?_; try simp only [gmS])
   (refine skW 30 ?_; try simp only [gmS])
   (refine skW 31 ?_; try simp only [gmS])
   (refine skW 32 ?_; try simp only [gmS])
   (refine skW 33 ?_; try simp only [gmS])
   (refine skW 34 ?_; try simp only [gmS])
   (refine skW 35 ?_; try simp only [gmS])
   (refine skW 36 ?_; try simp only [gmS])
   (refine skW 37 ?_; try simp only [gmS])
   (refine skW 38 ?_; try simp only [gmS])
   (refine skW 39 ?_; try simp only [gmS])
   (refine skW 40 ?_; try simp only [gmS])
   (refine skW 41 ?_; try simp only [gmS])
   (refine skW 42 ?_; try simp only [gmS])
   (refine skW 43 ?_; try simp only [gmS])
   (refine skW 44 ?_; try simp only [gmS])
   (refine tkW 45 ?_; try simp only [gmS])
   have B1 := Lib.hid (BU.out _ hHeld)
   (refine wpAnyH_done (by kernel_rfl) ?_ _; refine NoPanic.normal ?_)
   have RF : Hid (R = false) := Lib.hid (by rw [HD.out]; simp)
   clear HD hHeld
   go_wp2_with fail
   go_ret
   exact ⟨by rw [RF.out]; rfl, B1.out⟩
  (refine tkW 25 ?_; try simp only [gmS])
  (refine tkW 26 ?_; try simp only [gmS])
  (refine tkW 27 ?_; try simp only [gmS])
  (refine tkW 28 ?_; try simp only [gmS])
  (refine tkW 29 ?_; try simp only [gmS])
  (refine tkW 30 ?_; try simp only [gmS])
  (refine rdW 31 (fun K hK => ?_); go_simp)
  (with_reducible refine (C3.out _ hHeld).mono ?_)
  rintro e w3 ⟨rfl, b3⟩
  (refine hK.out _ _ (OldB.then hHeld b3) (fun hHeld2 => ?_); clear hK K hHeld; have hHeld := hHeld2; clear hHeld2; try simp only [gmS])
  (refine tkW 32 ?_; try simp only [gmS])
  (refine tkW 33 ?_; try simp only [gmS])
  cases q3
  rotate_left
  ·skip
   (refine skW 34 ?_; try simp only [gmS])
   (refine skW 35 ?_; try simp only [gmS])
   (refine skW 36 ?_; try simp only [gmS])
   (refine skW 37 ?_; try simp only [gmS])
   (refine skW 38 ?_; try simp only [gmS])
   (refine skW 39 ?_; try simp only [gmS])
   (refine skW 40 ?_; try simp only [gmS])
   (refine skW 41 ?_; try simp only [gmS])
   (refine skW 42 ?_; try simp only [gmS])
   (refine skW 43 ?_; try simp only [gmS])
   (refine tkW 44 ?_; try simp only [gmS])
   (refine tkW 45 ?_; try simp only [gmS])
   have B1 := Lib.hid (BU.out _ hHeld)
   (refine wpAnyH_done (by kernel_rfl) ?_ _; refine NoPanic.normal ?_)
   have R2 : Hid (R = all2 (fun a b => pairB L a.c b.c) (l.drop (k + 1)) (m.drop (k + 1))) := Lib.hid (by rw [HD.out]; simp)
   clear HD hHeld
   go_wp2_with fail
   exact ⟨⟨k + 1, by omega, by go_num, R2, B1⟩, by simp [intOf]; omega⟩
  (refine tkW 34 ?_; try simp only [gmS])
  (refine tkW 35 ?_; try simp only [gmS])
  (refine tkW 36 ?_; try simp only [gmS])
  (refine ldW 37 56 (.tmp 53) b (off + k * 21) xs _ LA.out Tryz.underlying56 ZX.out ?_; try simp only [gmS])
  (refine tkW 38 ?_; try simp only [gmS])
  (refine tkW 39 ?_; try simp only [gmS])
  (refine tkW 40 ?_; try simp only [gmS])
  (refine ldW 41 56 (.tmp 57) b' (off' + k * 21) ys _ LB.out Tryz.underlying56 ZY.out ?_; try simp only [gmS])
  (refine rdW 42 (fun K hK => ?_); go_simp)
  (with_reducible refine (C4.out _ hHeld).mono ?_)
  rintro e w4 ⟨rfl, b4⟩
  (refine hK.out _ _ (OldB.then hHeld b4) (fun hHeld2 => ?_); clear hK K hHeld; have hHeld := hHeld2; clear hHeld2; try simp only [gmS])
  (refine tkW 43 ?_; try simp only [gmS])
  (refine tkW 44 ?_; try simp only [gmS])
  (refine tkW 45 ?_; try simp only [gmS])
  cases q4
  ·skip
   have B1 := Lib.hid (BU.out _ hHeld)
   (refine wpAnyH_done (by kernel_rfl) ?_ _; refine NoPanic.normal ?_)
   have RF : Hid (R = false) := Lib.hid (by rw [HD.out]; simp)
   clear HD hHeld
   go_wp2_with fail
   go_ret
   exact ⟨by rw [RF.out]; rfl, B1.out⟩
  ·skip
   have B1 := Lib.hid (BU.out _ hHeld)
   (refine wpAnyH_done (by kernel_rfl) ?_ _; refine NoPanic.normal ?_)
   have R2 : Hid (R = all2 (fun a b => pairB L a.c b.c) (l.drop (k + 1)) (m.drop (k + 1))) := Lib.hid (by rw [HD.out]; simp)
   clear HD hHeld
   go_wp2_with fail
   exact ⟨⟨k + 1, by omega, by go_num, R2, B1⟩, by simp [intOf]; omega⟩
end Go.Proofs.YtniklmikdkjgiaaGreatDoor
namespace Go.Proofs.YtniklmikdkjgiaaGreatDoor
open Go.RowKit
theorem allFewR_two {a b : RL} {n : Nat} : allFewR [a, b] n = (fewL (rcsC a.l) n && fewL (rcsC b.l) n) := by simp [allFewR]
theorem walk_PrivacyMatchesReference (A : Option Addr) (cA : Nat) (l : List RV) (B : Option Addr) (cB : Nat) (m : List RV) (w : World) (h : Rw w A l) (h2 : Rw w B m) (ht : Tab w) :
  Calls Tryz.prog 3 #[.slice A l.length cA, .slice B m.length cB] w fun e w' => e = .returned (.bool true) ∧ Below w.heap.size w w' := by
 have H1 := Lib.hid h
 have H2 := Lib.hid h2
 have HT := Lib.hid ht
 have HD := Lib.hid (head_any w ht)
 obtain ⟨n1, hn1⟩ : ∃ n1, n1 = l.length := ⟨_, rfl⟩
 obtain ⟨n2, hn2⟩ : ∃ n2, n2 = m.length := ⟨_, rfl⟩
 have N1 := Lib.hid hn1
 have N2 := Lib.hid hn2
 rw [← hn1, ← hn2]
 clear h h2 ht hn1 hn2
 go_enter Tryz.func3, Tryz.ntmps3
 go_wp2_with fail
 (with_reducible refine HD.out.mono ?_)
 rintro e u1 ⟨rfl, b1⟩
 have B1 := Lib.hid b1
 obtain ⟨X, hX⟩ : ∃ X, X = u1.alloc (.cells #[.slice A n1 cA, .slice B n2 cB] 22) := ⟨_, rfl⟩
 have BX : Hid (Below w.heap.size w X) := Lib.hid (by rw [hX]; exact b1.alloc b1.size _)
 have FW := Lib.hid (few49_any (some ⟨u1.heap.size, 0, none⟩) 2 2 [⟨A, cA, l⟩, ⟨B, cB, m⟩] X rfl (by decide) (by rw [hX, N1.out, N2.out]; exact Rd.of_row (heap_alloc_new u1 _) (List.prefix_refl _)) (fun s hs => by
  simp only [List.mem_cons, List.not_mem_nil, or_false] at hs
  rcases hs with rfl | rfl
  ·exact H1.out.below BX.out
  ·exact H2.out.below BX.out))
 rw [allFewR_two] at FW
 have X0 := Lib.hid hX
 clear hX b1 HD B1
 go_wp2_with fail
 rw [← X0.out]
 (with_reducible refine FW.out.mono ?_)
 rintro e u2 ⟨rfl, b2⟩
 have B2 := Lib.hid (BX.out.trans (b2.mono BX.out.size))
 clear b2 FW X0 BX
 cases hf : (fewL (rcsC l) 16 && fewL (rcsC m) 16)
 ·go_wp2_with fail
  go_ret
  exact ⟨rfl, B2.out⟩
 rw [Bool.and_eq_true] at hf
 obtain ⟨f1, f2⟩ := hf
 have R1 := Lib.hid (H1.out.rs (by decide) f1)
 have R2 := Lib.hid (H2.out.rs (by decide) f2)
 clear f1 f2 H1 H2
 have FA := Lib.hid (hforgot A n1 cA l u2 N1.out (R1.out.below B2.out) (HT.out.keep B2.out))
 go_wp2_with fail
 (with_reducible refine FA.out.mono ?_)
 rintro e u3 ⟨⟨A3, c3, rfl, M3⟩, b3⟩
 have B3 := Lib.hid (B2.out.trans (b3.mono B2.out.size))
 have M3 := Lib.hid M3
 clear b3 B2 FA
 have FB := Lib.hid (forgotten49_any A n1 cA l u3 N1.out (R1.out.below B3.out))
 have z8 := forgot_len (rcsC l)
 generalize forgotF (rcsC l) = F at *
 obtain ⟨n8, hn8⟩ : ∃ n8, n8 = F.length := ⟨_, rfl⟩
 have N8 := Lib.hid hn8
 simp only [← hn8] at FB z8 ⊢
 clear hn8
 go_wp2_with fail
 (with_reducible refine FB.out.mono ?_)
 rintro e u4 ⟨⟨A4, c4, rfl, M4⟩, b4⟩
 have B4 := Lib.hid (B3.out.trans (b4.mono B3.out.size))
 have SM := lsame_any A3 A4 c3 c4 F F n8 n8 u4 N8.out N8.out (by omega) (by omega) (M3.out.below b4) M4
 rw [decide_eq_true rfl] at SM
 have SN := Lib.hid SM
 clear b4 B3 FB SM M3 M4
 go_wp2_with fail
 (with_reducible refine SN.out.mono ?_)
 rintro e u5 ⟨rfl, b5⟩
 have B5 := Lib.hid (B4.out.trans (b5.mono B4.out.size))
 clear b5 B4 SN
 have CA := Lib.hid (hclean A n1 cA l u5 N1.out (R1.out.below B5.out) (HT.out.keep B5.out))
 go_wp2_with fail
 (with_reducible refine CA.out.mono ?_)
 rintro e u6 ⟨⟨A6, c6, rfl, M6, -⟩, b6⟩
 have B6 := Lib.hid (B5.out.trans (b6.mono B5.out.size))
 have M6 := Lib.hid M6
 clear b6 B5 CA
 have CB := Lib.hid (hclean49 A n1 cA l u6 N1.out (R1.out.below B6.out))
 go_wp2_with fail
 (with_reducible refine CB.out.mono ?_)
 rintro e u7 ⟨⟨A7, c7, rfl, M7⟩, b7⟩
 have B7 := Lib.hid (B6.out.trans (b7.mono B6.out.size))
 have SA := rsameall_any A6 A7 c6 c7 (cleanL (rcsC l) l) (cleanL (rcsC l) l) n1 n1 u7 (by rw [cleanL_len]; exact N1.out) (by rw [cleanL_len]; exact N1.out) (M6.out.below b7) M7
 rw [show all2 (fun a b => sameR a.c b.c) (cleanL (rcsC l) l) (cleanL (rcsC l) l) = true by
  rw [← all2_map (f := sameR) RV.c RV.c]; exact (all2_eq sameR_iff).2 rfl] at SA
 have SB := Lib.hid SA
 clear b7 SA B6 CB M6 M7
 go_wp2_with fail
 (with_reducible refine SB.out.mono ?_)
 rintro e u8 ⟨rfl, b8⟩
 have B8 := Lib.hid (B7.out.trans (b8.mono B7.out.size))
 clear b8 B7 SB
 have PA := Lib.hid (ppublic_any A B cA cB l m n1 n2 u8 N1.out N2.out (R1.out.below B8.out) (R2.out.below B8.out) (HT.out.keep B8.out))
 generalize hq : pubB (rcsC l) (rcsC m) = q at *
 have HQ := Lib.hid hq
 clear hq
 go_wp2_with fail
 (with_reducible refine PA.out.mono ?_)
 rintro e u9 ⟨rfl, b9⟩
 have B9 := Lib.hid (B8.out.trans (b9.mono B8.out.size))
 have PB0 := public49_any A B cA cB l m n1 n2 u9 N1.out N2.out (R1.out.below B9.out) (R2.out.below B9.out)
 rw [HQ.out] at PB0
 have PB := Lib.hid PB0
 clear PB0 b9 B8 PA
 go_wp2_with fail
 (with_reducible refine PB.out.mono ?_)
 rintro e u10 ⟨rfl, b10⟩
 have B10 := Lib.hid (B9.out.trans (b10.mono B9.out.size))
 clear b10 B9 PB HQ
 cases q
 ·go_wp2_with fail
  go_ret
  exact ⟨rfl, B10.out⟩
 ·go_wp2_with fail
  go_ret
  exact ⟨rfl, B10.out⟩
end Go.Proofs.YtniklmikdkjgiaaGreatDoor
