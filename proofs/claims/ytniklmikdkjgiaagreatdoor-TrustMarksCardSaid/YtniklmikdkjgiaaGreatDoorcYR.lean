import Derived.Test.YtniklmikdkjgiaaGreatDoorcXH
import Derived.Test.YtniklmikdkjgiaaGreatDoorWD
set_option linter.all false
set_option maxHeartbeats 16000000
set_option maxRecDepth 100000
namespace Go.Proofs.YtniklmikdkjgiaaGreatDoor
open Go.RowKit
theorem rvalid_any (r : RV) (w : World) (h : RvIs w r) (hs : RcSz r.c) (ht : Tab w) :
    Calls Tryz.prog 40 #[rvA r] w fun en w' => en = .returned (.bool (validR r.c)) ∧ Below w.heap.size w w' := by
  obtain ⟨⟨A0, c0, v0, r0⟩, ⟨A1, c1, v1, r1⟩, hsl, ⟨A4, c4, v4, r4⟩, ⟨A5, c5, v5, r5⟩, hps⟩ := h
  obtain ⟨⟨A2, c2, v2, -⟩, ⟨A3, c3, v3, -⟩⟩ := id hsl
  obtain ⟨⟨A6, c6, v6, -⟩, ⟨A7, c7, v7, -⟩⟩ := id hps
  have hv : rvA r = .agg #[.int .i64 r.kind, .int .i64 r.author, .int .i64 r.number, .int .i64 r.clock, .string (mkB r.branch), .slice A0 r.parents.length c0, .slice A1 r.edits.length c1, .string (mkB r.target), .bool r.yes, .int .i64 r.order, .string (mkB r.frm), .int .i64 r.sla.index, .slice A2 r.sla.sig.length c2, .slice A3 r.sla.path.length c3, .string (mkB r.name), .string (mkB r.reason), .slice A4 r.sources.length c4, .slice A5 r.trace.length c5, .int .i64 r.pseal.index, .slice A6 r.pseal.sig.length c6, .slice A7 r.pseal.path.length c7] := by unfold rvA rvL; rw [v0, v1, v2, v3, v4, v5, v6, v7]
  have hv2 : (slL r.sla).toArray = #[.int .i64 r.sla.index, .slice A2 r.sla.sig.length c2, .slice A3 r.sla.path.length c3] := by unfold slL; rw [v2, v3]
  have hv3 : (slL r.pseal).toArray = #[.int .i64 r.pseal.index, .slice A6 r.pseal.sig.length c6, .slice A7 r.pseal.path.length c7] := by unfold slL; rw [v6, v7]
  obtain ⟨bx, hbx⟩ : ∃ bx, w.heap.size = bx := ⟨_, rfl⟩
  obtain ⟨bf, hbf⟩ : ∃ bf, w.heap.size + 1 = bf := ⟨_, rfl⟩
  obtain ⟨bp, hbp⟩ : ∃ bp, bf + 1 = bp := ⟨_, rfl⟩
  obtain ⟨W, hW⟩ : ∃ W, W = ((w.alloc (.cells #[.int .i64 r.kind, .int .i64 r.author, .int .i64 r.number, .int .i64 r.clock, .string (mkB r.branch), .slice A0 r.parents.length c0, .slice A1 r.edits.length c1, .string (mkB r.target), .bool r.yes, .int .i64 r.order, .string (mkB r.frm), .int .i64 r.sla.index, .slice A2 r.sla.sig.length c2, .slice A3 r.sla.path.length c3, .string (mkB r.name), .string (mkB r.reason), .slice A4 r.sources.length c4, .slice A5 r.trace.length c5, .int .i64 r.pseal.index, .slice A6 r.pseal.sig.length c6, .slice A7 r.pseal.path.length c7] 56)).alloc (.cells #[.func (.func 72) #[] #[]] 106)).alloc (.cells #[.string (mkB r.name), .string (mkB r.reason), .slice A4 r.sources.length c4, .slice A5 r.trace.length c5, .int .i64 r.pseal.index, .slice A6 r.pseal.sig.length c6, .slice A7 r.pseal.path.length c7] 54) := ⟨_, rfl⟩
  have HX : Hid (W.heap[bx]? = some (.cells #[.int .i64 r.kind, .int .i64 r.author, .int .i64 r.number, .int .i64 r.clock, .string (mkB r.branch), .slice A0 r.parents.length c0, .slice A1 r.edits.length c1, .string (mkB r.target), .bool r.yes, .int .i64 r.order, .string (mkB r.frm), .int .i64 r.sla.index, .slice A2 r.sla.sig.length c2, .slice A3 r.sla.path.length c3, .string (mkB r.name), .string (mkB r.reason), .slice A4 r.sources.length c4, .slice A5 r.trace.length c5, .int .i64 r.pseal.index, .slice A6 r.pseal.sig.length c6, .slice A7 r.pseal.path.length c7] 56 (0, 0))) := Lib.hid (by rw [hW, ← hbx]; exact (alloc_old _ _ (by simp; omega)).trans ((alloc_old _ _ (by simp)).trans (heap_alloc_new w _)))
  have HF : Hid (WiAt bf W) := Lib.hid (by rw [hW, ← hbf]; exact (alloc_old _ _ (by simp)).trans (alloc_new' _ _ _ (by simp)))
  have HP : Hid (W.heap[bp]? = some (.cells #[.string (mkB r.name), .string (mkB r.reason), .slice A4 r.sources.length c4, .slice A5 r.trace.length c5, .int .i64 r.pseal.index, .slice A6 r.pseal.sig.length c6, .slice A7 r.pseal.path.length c7] 54 (0, 0))) := Lib.hid (by rw [hW, ← hbp, ← hbf]; exact alloc_new' _ _ _ (by simp))
  have HZ : W.heap.size = w.heap.size + 3 := by rw [hW]; simp
  have BH : Hid (Below w.heap.size w W) := Lib.hid (by rw [hW]; exact (((Below.refl _ _).alloc (Nat.le_refl _) _).alloc (by simp) _).alloc (by simp; omega) _)
  have BA : Hid (∀ u, OldB W u → Below w.heap.size w u) := Lib.hid (fun u hu => BH.out.trans (Below.mono hu BH.out.size))
  have kx : ∀ (i : Nat) v, (#[.int .i64 r.kind, .int .i64 r.author, .int .i64 r.number, .int .i64 r.clock, .string (mkB r.branch), .slice A0 r.parents.length c0, .slice A1 r.edits.length c1, .string (mkB r.target), .bool r.yes, .int .i64 r.order, .string (mkB r.frm), .int .i64 r.sla.index, .slice A2 r.sla.sig.length c2, .slice A3 r.sla.path.length c3, .string (mkB r.name), .string (mkB r.reason), .slice A4 r.sources.length c4, .slice A5 r.trace.length c5, .int .i64 r.pseal.index, .slice A6 r.pseal.sig.length c6, .slice A7 r.pseal.path.length c7] : Array Value)[i]? = some v → ∀ u, OldB W u → u.cell? ⟨bx, i, none⟩ = some v := fun i v hv u hu => by
    rw [Lib.cell_of_heap ((hu.block bx (by omega)).trans HX.out)]; exact hv
  have kp : ∀ (i : Nat) v, (#[.string (mkB r.name), .string (mkB r.reason), .slice A4 r.sources.length c4, .slice A5 r.trace.length c5, .int .i64 r.pseal.index, .slice A6 r.pseal.sig.length c6, .slice A7 r.pseal.path.length c7] : Array Value)[i]? = some v → ∀ u, OldB W u → u.cell? ⟨bp, i, none⟩ = some v := fun i v hv u hu => by
    rw [Lib.cell_of_heap ((hu.block bp (by omega)).trans HP.out)]; exact hv
  have kf : ∀ u, OldB W u → u.cell? ⟨bf, 0, none⟩ = some (.func (.func 72) #[] #[]) := fun u hu => by
    rw [Lib.cell_of_heap ((hu.block bf (by omega)).trans HF.out)]; rfl
  have k0 := kx 0 _ rfl
  have k1 := kx 1 _ rfl
  have k2 := kx 2 _ rfl
  have k3 := kx 3 _ rfl
  have k4 := kx 4 _ rfl
  have k5 := kx 5 _ rfl
  have k6 := kx 6 _ rfl
  have k7 := kx 7 _ rfl
  have k8 := kx 8 _ rfl
  have k9 := kx 9 _ rfl
  have k10 := kx 10 _ rfl
  have k11 := kx 11 _ rfl
  have k12 := kx 12 _ rfl
  have k13 := kx 13 _ rfl
  have p0 := kp 0 _ rfl
  have p1 := kp 1 _ rfl
  have p2 := kp 2 _ rfl
  have p3 := kp 3 _ rfl
  have p4 := kp 4 _ rfl
  have p5 := kp 5 _ rfl
  have p6 := kp 6 _ rfl
  clear kx kp
  -- what the calls give
  have OA : Hid (∀ u, OldB W u → Calls Tryz.prog 76 #[.slice A5 r.trace.length c5, .func (.func 77) #[] #[.pointer (some ⟨bf, 0, none⟩)]] u fun e w' => e = .returned (.bool (r.trace.any offB)) ∧ Below u.heap.size u w') := Lib.hid (fun u hu => haspt_any bf A5 _ c5 r.trace u rfl hs.trace (r5.below (BA.out u hu)) (HF.out.below hu))
  have SN : Hid (∀ u, OldB W u → Calls Tryz.prog 73 #[.slice (some ⟨u.heap.size, 0, none⟩) 2 2] (u.alloc (.cells #[.string (mkB r.name), .string (mkB r.reason)] 9)) fun e w' => e = .returned (.bool (shortB [r.name, r.reason])) ∧ Below (u.alloc (.cells #[.string (mkB r.name), .string (mkB r.reason)] 9)).heap.size (u.alloc (.cells #[.string (mkB r.name), .string (mkB r.reason)] 9)) w') := Lib.hid (fun u _ => short_any (some ⟨u.heap.size, 0, none⟩) 2 2 [r.name, r.reason] _ rfl (by decide) (by intro t ht; simp at ht; rcases ht with rfl | rfl; exact hs.name; exact hs.reason) (Rd.of_row (heap_alloc_new u _) (List.prefix_refl _)))
  have SS : Hid (∀ u, OldB W u → Calls Tryz.prog 73 #[.slice A4 r.sources.length c4] u fun e w' => e = .returned (.bool (shortB r.sources)) ∧ Below u.heap.size u w') := Lib.hid (fun u hu => short_any A4 _ c4 r.sources u rfl hs.sources hs.source (r4.below (BA.out u hu)))
  have FP : Hid (∀ u, OldB W u → Calls Tryz.prog 78 #[.agg (slL r.pseal).toArray] u fun e w' => e = .returned (.bool (formedS r.pseal.c)) ∧ Below u.heap.size u w') := Lib.hid (fun u hu => formed_any r.pseal u (hps.below (BA.out u hu)) hs.pseal)
  have FS : Hid (∀ u, OldB W u → Calls Tryz.prog 78 #[.agg (slL r.sla).toArray] u fun e w' => e = .returned (.bool (formedS r.sla.c)) ∧ Below u.heap.size u w') := Lib.hid (fun u hu => formed_any r.sla u (hsl.below (BA.out u hu)) hs.sla)
  rw [hv2] at FS
  rw [hv3] at FP
  have IS : Hid (∀ u, OldB W u → Calls Tryz.prog 79 #[.slice A0 r.parents.length c0] u fun e w' => e = .returned (.bool (sortedT r.parents)) ∧ Below u.heap.size u w') := Lib.hid (fun u hu => sorted_any A0 _ c0 r.parents u rfl hs.parents (r0.below (BA.out u hu)))
  have CL : Hid (∀ u, OldB W u → Calls Tryz.prog 81 #[.slice A0 r.parents.length c0] u fun e w' => ∃ v, e = .returned v ∧ w'.ownsRow u.heap.size 9 1 v r.parents.length (strsC r.parents) ∧ Below u.heap.size u w') := Lib.hid (fun u hu => clone_str A0 _ c0 r.parents u rfl hs.parents (r0.below (BA.out u hu)))
  have CM : Hid (∀ B v u, u.ownsRow B 9 1 v r.parents.length (strsC r.parents) → Calls Tryz.prog 80 #[v] u fun e w' => ∃ A c, e = .returned (.slice A (Lib.compact r.parents).length c) ∧ Below B u w') := Lib.hid (fun B v u hu => compact_str B _ v r.parents u rfl hs.parents hu)
  have W1 := Lib.hid (fun u => within_any r.author 0 59 u)
  have W2 := Lib.hid (fun u => within_any r.number 1 128 u)
  have W3 := Lib.hid (fun u => within_any r.clock 1 1000000 u)
  have W4 := Lib.hid (fun u => within_any r.order 1 4 u)
  have NB := Lib.hid (fun u => name_any r.branch u (Nat.le_trans hs.branch (by decide)))
  have NF := Lib.hid (fun u => name_any r.frm u (Nat.le_trans hs.frm (by decide)))
  have DP : Hid (∀ u, OldB W u → Calls Tryz.prog 83 #[.slice A0 r.parents.length c0] u fun e w' => e = .returned (.bool (r.parents.all Dg.isD)) ∧ Below u.heap.size u w') := Lib.hid (fun u hu => digests_any A0 _ c0 r.parents u rfl hs.parents hs.parent (r0.below (BA.out u hu)))
  have RT : Hid (∀ u, OldB W u → Calls Tryz.prog 84 #[.slice A1 r.edits.length c1] u fun e w' => e = .returned (.tuple #[.string (mkB (rtextF (edsC r.edits)).1), .bool (rtextF (edsC r.edits)).2]) ∧ Below u.heap.size u w') := Lib.hid (fun u hu => rtext_any A1 _ c1 r.edits u rfl (r1.below (BA.out u hu)) (ht.keep (BA.out u hu)))
  have IT := Lib.hid (fun u => isT_anyG r.target u (Nat.le_trans hs.target (by decide)))
  have e4 : decide ((16 : Int) < (r.sources.length : Int)) = decide (16 < r.sources.length) := by by_cases h : 16 < r.sources.length <;> simp [h] <;> omega
  have e5 : decide ((200 : Int) < (r.trace.length : Int)) = decide (200 < r.trace.length) := by by_cases h : 200 < r.trace.length <;> simp [h] <;> omega
  have e6 : decide ((16 : Int) < (r.parents.length : Int)) = decide (16 < r.parents.length) := by by_cases h : 16 < r.parents.length <;> simp [h] <;> omega
  have e9 : (((Lib.compact r.parents).length : Int) == (r.parents.length : Int)) = decide ((Lib.compact r.parents).length = r.parents.length) := by by_cases h : (Lib.compact r.parents).length = r.parents.length <;> simp [h] <;> omega
  have PM : Hid (validR r.c = (!(r.trace.any offB || !shortB [r.name, r.reason] || !shortB r.sources || decide (16 < r.sources.length) || decide (200 < r.trace.length) || !formedS r.pseal.c || !formedS r.sla.c)
    && !(!inB r.author 0 59 || !inB r.number 1 128 || !inB r.clock 1 1000000 || !At.nameB r.branch || decide (16 < r.parents.length) || !r.parents.all Dg.isD || !(sortedT r.parents && decide ((Lib.compact r.parents).length = r.parents.length)))
    && (rtextF (edsC r.edits)).2 && kindR r.c)) := Lib.hid rfl
  rw [hv]
  generalize validR r.c = R at *
  generalize r.trace.any offB = b1 at *
  generalize shortB [r.name, r.reason] = b2 at *
  generalize shortB r.sources = b3 at *
  generalize decide (16 < r.sources.length) = b4 at *
  generalize decide (200 < r.trace.length) = b5 at *
  generalize formedS r.pseal.c = b6 at *
  generalize formedS r.sla.c = b7 at *
  generalize sortedT r.parents = b8 at *
  generalize decide ((Lib.compact r.parents).length = r.parents.length) = b9 at *
  generalize inB r.author 0 59 = c1' at *
  generalize inB r.number 1 128 = c2' at *
  generalize inB r.clock 1 1000000 = c3' at *
  generalize At.nameB r.branch = c4' at *
  generalize decide (16 < r.parents.length) = c5' at *
  generalize r.parents.all Dg.isD = c6' at *
  generalize rtextF (edsC r.edits) = rt at *
  obtain ⟨tx, b10⟩ := rt
  dsimp only at RT PM
  have OD : OldB W W := Below.refl _ _
  clear r0 r1 r4 r5 hsl hps hv hv2 hv3 v0 v1 v2 v3 v4 v5 v6 v7 ht HZ hs
  have X1 := Lib.hid hbx
  have X2 := Lib.hid hbf
  have X3 := Lib.hid hbp
  clear hbx hbf hbp
  have sf : ∀ (a : Addr) (u : World), (store a (.func (.func 72) #[] #[])).run Tryz.prog u = stored Tryz.prog u a (.func (.func 72) #[] #[]) .plain := fun a u => run_store _ u a _ _ rfl
  go_enter Tryz.func40, Tryz.ntmps40
  go_upto_region 4 with fail
  rw [← hW]
  try rw [X2.out]
  try rw [X3.out]
  try rw [X1.out]
  clear hW X1 X2 X3 sf
  go_wp2_with fail
  (with_reducible refine (OA.out _ OD).mono ?_)
  rintro en u1 ⟨rfl, d1⟩
  have OD : OldB W u1 := OldB.then OD d1
  clear d1
  cases b1
  rotate_left
  · skip
    have RF : Hid (R = false) := Lib.hid (by rw [PM.out]; simp)
    go_wp2_with fail
    go_ret
    exact ⟨by rw [RF.out]; rfl, BA.out _ OD⟩
  have SH := Lib.hid (SN.out _ OD)
  go_wp2_with fail
  (with_reducible refine SH.out.mono ?_)
  rintro en u2 ⟨rfl, d2⟩
  have OD : OldB W u2 := OldB.then OD (((Below.refl _ _).alloc (Nat.le_refl _) _).trans (d2.mono (by simp)))
  clear d2 SH
  cases b2
  · skip
    have RF : Hid (R = false) := Lib.hid (by rw [PM.out]; simp)
    go_wp2_with fail
    go_ret
    exact ⟨by rw [RF.out]; rfl, BA.out _ OD⟩
  go_wp2_with fail
  (with_reducible refine (SS.out _ OD).mono ?_)
  rintro en u3 ⟨rfl, d3⟩
  have OD : OldB W u3 := OldB.then OD d3
  clear d3
  cases b3
  · skip
    have RF : Hid (R = false) := Lib.hid (by rw [PM.out]; simp)
    go_wp2_with fail
    go_ret
    exact ⟨by rw [RF.out]; rfl, BA.out _ OD⟩
  cases b4
  rotate_left
  · skip
    have RF : Hid (R = false) := Lib.hid (by rw [PM.out]; simp)
    go_wp2_with fail
    go_ret
    exact ⟨by rw [RF.out]; rfl, BA.out _ OD⟩
  cases b5
  rotate_left
  · skip
    have RF : Hid (R = false) := Lib.hid (by rw [PM.out]; simp)
    go_wp2_with fail
    go_ret
    exact ⟨by rw [RF.out]; rfl, BA.out _ OD⟩
  go_wp2_with fail
  (with_reducible refine (FP.out _ OD).mono ?_)
  rintro en u4 ⟨rfl, d4⟩
  have OD : OldB W u4 := OldB.then OD d4
  clear d4
  cases b6
  · skip
    have RF : Hid (R = false) := Lib.hid (by rw [PM.out]; simp)
    go_wp2_with fail
    go_ret
    exact ⟨by rw [RF.out]; rfl, BA.out _ OD⟩
  go_wp2_with fail
  (with_reducible refine (FS.out _ OD).mono ?_)
  rintro en u5 ⟨rfl, d5⟩
  have OD : OldB W u5 := OldB.then OD d5
  clear d5
  cases b7
  · skip
    have RF : Hid (R = false) := Lib.hid (by rw [PM.out]; simp)
    go_wp2_with fail
    go_ret
    exact ⟨by rw [RF.out]; rfl, BA.out _ OD⟩
  simp only [Bool.false_or, Bool.or_false, Bool.not_true, Bool.not_false, Bool.true_and] at PM
  go_upto_region 7 with fail
  (refine wp_region_noPanic ?_; refine wp_region_held_drew (S := (OldB W)) (by kernel_rfl) ?_ (fun hHeld => ?_); exact Below.drew OD)
  (refine tkW 0 ?_; try simp only [gmS])
  (refine tkW 1 ?_; try simp only [gmS])
  (refine rdW 2 (fun K hK => ?_))
  go_simp
  refine (IS.out _ hHeld).mono ?_
  rintro en u6 ⟨rfl, d6⟩
  (refine hK.out _ _ (OldB.then hHeld d6) (fun hHeld2 => ?_); clear hK K hHeld; have hHeld := hHeld2; clear hHeld2; try simp only [gmS])
  clear d6
  cases b8
  · skip
    (refine tkW 3 ?_; try simp only [gmS])
    (refine skW 4 ?_; try simp only [gmS])
    (refine skW 5 ?_; try simp only [gmS])
    (refine skW 6 ?_; try simp only [gmS])
    (refine skW 7 ?_; try simp only [gmS])
    (refine skW 8 ?_; try simp only [gmS])
    (refine skW 9 ?_; try simp only [gmS])
    (refine skW 10 ?_; try simp only [gmS])
    (refine skW 11 ?_; try simp only [gmS])
    (refine skW 12 ?_; try simp only [gmS])
    (refine tkW 13 ?_; try simp only [gmS])
    (refine tkW 14 ?_; try simp only [gmS])
    have OD := hHeld
    (refine wpAnyH_done (by kernel_rfl) ?_ _; refine NoPanic.normal ?_)
    have PM : Hid (R = false) := Lib.hid (by rw [PM.out]; simp)
    go_wp2_with fail
    (with_reducible refine (W1.out _).mono ?_)
    rintro en u7 ⟨rfl, d7⟩
    have OD : OldB W u7 := OldB.then OD d7
    clear d7
    cases c1'
    · skip
      go_wp2_with fail
      go_ret
      exact ⟨by rw [PM.out]; rfl, BA.out _ OD⟩
    go_wp2_with fail
    (with_reducible refine (W2.out _).mono ?_)
    rintro en u8 ⟨rfl, d8⟩
    have OD : OldB W u8 := OldB.then OD d8
    clear d8
    cases c2'
    · skip
      go_wp2_with fail
      go_ret
      exact ⟨by rw [PM.out]; rfl, BA.out _ OD⟩
    go_wp2_with fail
    (with_reducible refine (W3.out _).mono ?_)
    rintro en u9 ⟨rfl, d9⟩
    have OD : OldB W u9 := OldB.then OD d9
    clear d9
    cases c3'
    · skip
      go_wp2_with fail
      go_ret
      exact ⟨by rw [PM.out]; rfl, BA.out _ OD⟩
    go_wp2_with fail
    (with_reducible refine (NB.out _).mono ?_)
    rintro en u10 ⟨rfl, d10⟩
    have OD : OldB W u10 := OldB.then OD d10
    clear d10
    cases c4'
    · skip
      go_wp2_with fail
      go_ret
      exact ⟨by rw [PM.out]; rfl, BA.out _ OD⟩
    cases c5'
    rotate_left
    · skip
      go_wp2_with fail
      go_ret
      exact ⟨by rw [PM.out]; rfl, BA.out _ OD⟩
    go_wp2_with fail
    (with_reducible refine (DP.out _ OD).mono ?_)
    rintro en u11 ⟨rfl, d11⟩
    have OD : OldB W u11 := OldB.then OD d11
    clear d11
    cases c6'
    · skip
      go_wp2_with fail
      go_ret
      exact ⟨by rw [PM.out]; rfl, BA.out _ OD⟩
    go_wp2_with fail
    go_ret
    exact ⟨by rw [PM.out]; rfl, BA.out _ OD⟩
  · skip
    (refine tkW 3 ?_; try simp only [gmS])
    (refine tkW 4 ?_; try simp only [gmS])
    (refine tkW 5 ?_; try simp only [gmS])
    (refine tkW 9 ?_; try simp only [gmS])
    (refine tkW 10 ?_; try simp only [gmS])
    (refine tkW 11 ?_; try simp only [gmS])
    (refine rdW 6 (fun K hK => ?_))
    go_simp
    have HH := Lib.hid hHeld
    refine (CL.out _ hHeld).mono ?_
    rintro en u12 ⟨v, rfl, ho, d12⟩
    have HO := Lib.hid ho
    have HD := Lib.hid d12
    clear ho d12
    (refine hK.out _ _ (OldB.then hHeld HD.out) (fun hHeld2 => ?_); clear hK K hHeld; have hHeld := hHeld2; clear hHeld2; try simp only [gmS])
    (refine rdW 7 (fun K hK => ?_))
    go_simp
    refine (CM.out _ _ _ HO.out).mono ?_
    rintro en u13 ⟨A9, c9, rfl, d13⟩
    (refine hK.out _ _ (OldB.then HH.out (HD.out.trans d13)) (fun hHeld2 => ?_); clear hK K hHeld; have hHeld := hHeld2; clear hHeld2; try simp only [gmS])
    clear d13
    (refine tkW 8 ?_; try simp only [gmS])
    (refine tkW 12 (v := .bool b9) ?_; try simp only [gmS])
    (refine tkW 13 ?_; try simp only [gmS])
    (refine tkW 14 ?_; try simp only [gmS])
    have OD := hHeld
    (refine wpAnyH_done (by kernel_rfl) ?_ _; refine NoPanic.normal ?_)
    go_wp2_with fail
    (with_reducible refine (W1.out _).mono ?_)
    rintro en u14 ⟨rfl, d14⟩
    have OD : OldB W u14 := OldB.then OD d14
    clear d14
    cases c1'
    · skip
      have RF : Hid (R = false) := Lib.hid (by rw [PM.out]; simp)
      go_wp2_with fail
      go_ret
      exact ⟨by rw [RF.out]; rfl, BA.out _ OD⟩
    go_wp2_with fail
    (with_reducible refine (W2.out _).mono ?_)
    rintro en u15 ⟨rfl, d15⟩
    have OD : OldB W u15 := OldB.then OD d15
    clear d15
    cases c2'
    · skip
      have RF : Hid (R = false) := Lib.hid (by rw [PM.out]; simp)
      go_wp2_with fail
      go_ret
      exact ⟨by rw [RF.out]; rfl, BA.out _ OD⟩
    go_wp2_with fail
    (with_reducible refine (W3.out _).mono ?_)
    rintro en u16 ⟨rfl, d16⟩
    have OD : OldB W u16 := OldB.then OD d16
    clear d16
    cases c3'
    · skip
      have RF : Hid (R = false) := Lib.hid (by rw [PM.out]; simp)
      go_wp2_with fail
      go_ret
      exact ⟨by rw [RF.out]; rfl, BA.out _ OD⟩
    go_wp2_with fail
    (with_reducible refine (NB.out _).mono ?_)
    rintro en u17 ⟨rfl, d17⟩
    have OD : OldB W u17 := OldB.then OD d17
    clear d17
    cases c4'
    · skip
      have RF : Hid (R = false) := Lib.hid (by rw [PM.out]; simp)
      go_wp2_with fail
      go_ret
      exact ⟨by rw [RF.out]; rfl, BA.out _ OD⟩
    cases c5'
    rotate_left
    · skip
      have RF : Hid (R = false) := Lib.hid (by rw [PM.out]; simp)
      go_wp2_with fail
      go_ret
      exact ⟨by rw [RF.out]; rfl, BA.out _ OD⟩
    go_wp2_with fail
    (with_reducible refine (DP.out _ OD).mono ?_)
    rintro en u18 ⟨rfl, d18⟩
    have OD : OldB W u18 := OldB.then OD d18
    clear d18
    cases c6'
    · skip
      have RF : Hid (R = false) := Lib.hid (by rw [PM.out]; simp)
      go_wp2_with fail
      go_ret
      exact ⟨by rw [RF.out]; rfl, BA.out _ OD⟩
    cases b9
    · skip
      have RF : Hid (R = false) := Lib.hid (by rw [PM.out]; simp)
      go_wp2_with fail
      go_ret
      exact ⟨by rw [RF.out]; rfl, BA.out _ OD⟩
    simp only [Bool.true_and, Bool.and_true, Bool.false_or, Bool.or_false, Bool.not_true, Bool.not_false] at PM
    go_wp2_with fail
    (with_reducible refine (RT.out _ OD).mono ?_)
    rintro en u19 ⟨rfl, d19⟩
    have OD : OldB W u19 := OldB.then OD d19
    clear d19
    cases b10
    · skip
      have RF : Hid (R = false) := Lib.hid (by rw [PM.out]; simp)
      go_wp2_with fail
      go_ret
      exact ⟨by rw [RF.out]; rfl, BA.out _ OD⟩
    simp only [Bool.true_and] at PM
    have te := mkB_tl []
    have em : (ByteArray.mk #[]) = mkB [] := rfl
    have tt := mkB_tl r.target
    have tf := mkB_tl r.frm
    have tb := mkB_tl r.branch
    obtain ⟨q1, eq1⟩ : ∃ b, (r.target == []) = b := ⟨_, rfl⟩
    obtain ⟨q3, eq3⟩ : ∃ b, (r.order == 0) = b := ⟨_, rfl⟩
    obtain ⟨q4, eq4⟩ : ∃ b, (r.frm == []) = b := ⟨_, rfl⟩
    obtain ⟨q5, eq5⟩ : ∃ b, decide (0 < r.edits.length) = b := ⟨_, rfl⟩
    obtain ⟨q6, eq6⟩ : ∃ b, (r.order == 3) = b := ⟨_, rfl⟩
    obtain ⟨q7, eq7⟩ : ∃ b, (r.frm == r.branch) = b := ⟨_, rfl⟩
    have el : decide (0 < (edsC r.edits).length) = q5 := by unfold edsC; rw [List.length_map]; exact eq5
    have ei : decide ((0 : Int) < (r.edits.length : Int)) = q5 := by rw [← eq5]; by_cases h : 0 < r.edits.length <;> simp [h] <;> omega
    have eq5z := eq5
    by_cases hk : r.kind = 1
    · skip
      have ek1 : (r.kind == 1) = true := by rw [hk]; rfl
      have ek2 : (r.kind == 2) = false := by rw [hk]; rfl
      have ek3 : (r.kind == 3) = false := by rw [hk]; rfl
      have ek4 : (r.kind == 4) = false := by rw [hk]; rfl
      have ek5 : (r.kind == 5) = false := by rw [hk]; rfl
      have G := Lib.hid hk
      clear hk
      have PM : Hid (R = ((r.target == []) && (r.yes == false) && (r.order == 0) && (r.frm == []) && (decide (0 < (edsC r.edits).length) == true) && (!false || Dg.isD []))) := Lib.hid (by rw [PM.out]; unfold kindR; rw [if_pos (show r.c.kind = 1 from G.out)]; rfl)
      simp only [eq1, eq3, eq4, eq6, eq7, el, beq_self_eq_true, Bool.true_and] at PM
      generalize r.yes = ye at *
      cases q1
      · skip
        have RF : Hid (R = false) := Lib.hid (by rw [PM.out]; simp)
        go_wp2_with fail
        go_ret
        exact ⟨by rw [RF.out]; rfl, BA.out _ OD⟩
      cases ye
      rotate_left
      · skip
        have RF : Hid (R = false) := Lib.hid (by rw [PM.out]; simp)
        go_wp2_with fail
        go_ret
        exact ⟨by rw [RF.out]; rfl, BA.out _ OD⟩
      cases q3
      · skip
        have RF : Hid (R = false) := Lib.hid (by rw [PM.out]; simp)
        go_wp2_with fail
        go_ret
        exact ⟨by rw [RF.out]; rfl, BA.out _ OD⟩
      cases q4
      · skip
        have RF : Hid (R = false) := Lib.hid (by rw [PM.out]; simp)
        go_wp2_with fail
        go_ret
        exact ⟨by rw [RF.out]; rfl, BA.out _ OD⟩
      cases q5
      · skip
        have RF : Hid (R = false) := Lib.hid (by rw [PM.out]; simp)
        go_wp2_with fail
        go_ret
        exact ⟨by rw [RF.out]; rfl, BA.out _ OD⟩
      have PF : Hid (R = true) := Lib.hid (by rw [PM.out]; simp)
      go_wp2_with fail
      go_ret
      exact ⟨by rw [PF.out]; rfl, BA.out _ OD⟩
    have G1 := Lib.hid hk
    have ek1 : (r.kind == 1) = false := by simpa using hk
    clear hk
    by_cases hk : r.kind = 2
    · skip
      have ek1 : (r.kind == 1) = false := by rw [hk]; rfl
      have ek2 : (r.kind == 2) = true := by rw [hk]; rfl
      have ek3 : (r.kind == 3) = false := by rw [hk]; rfl
      have ek4 : (r.kind == 4) = false := by rw [hk]; rfl
      have ek5 : (r.kind == 5) = false := by rw [hk]; rfl
      have G := Lib.hid hk
      clear hk
      have PM : Hid (R = ((r.target == r.target) && (r.yes == r.yes) && (r.order == 0) && (r.frm == []) && (decide (0 < (edsC r.edits).length) == false) && (!true || Dg.isD r.target))) := Lib.hid (by rw [PM.out]; unfold kindR; rw [if_neg (show ¬ r.c.kind = 1 from G1.out), if_pos (show r.c.kind = 2 from G.out)]; rfl)
      simp only [eq1, eq3, eq4, eq6, eq7, el, beq_self_eq_true, Bool.true_and] at PM
      generalize Dg.isD r.target = dt at *
      go_upto_region 19 with fail
      (refine wp_region_noPanic ?_; refine wp_region_held_drew (S := (OldB W)) (by kernel_rfl) ?_ (fun hHeld => ?_); exact Below.drew OD)
      (refine tkW 0 ?_; try simp only [gmS])
      (refine tkW 1 ?_; try simp only [gmS])
      (refine tkW 2 ?_; try simp only [gmS])
      (refine tkW 3 ?_; try simp only [gmS])
      (refine tkW 4 ?_; try simp only [gmS])
      (refine tkW 5 ?_; try simp only [gmS])
      have OD := hHeld
      (refine wpAnyH_done (by kernel_rfl) ?_ _; refine NoPanic.normal ?_)
      cases q3
      · skip
        have RF : Hid (R = false) := Lib.hid (by rw [PM.out]; simp)
        go_wp2_with fail
        go_ret
        exact ⟨by rw [RF.out]; rfl, BA.out _ OD⟩
      cases q4
      · skip
        have RF : Hid (R = false) := Lib.hid (by rw [PM.out]; simp)
        go_wp2_with fail
        go_ret
        exact ⟨by rw [RF.out]; rfl, BA.out _ OD⟩
      cases q5
      rotate_left
      · skip
        have RF : Hid (R = false) := Lib.hid (by rw [PM.out]; simp)
        go_wp2_with fail
        go_ret
        exact ⟨by rw [RF.out]; rfl, BA.out _ OD⟩
      go_wp2_with fail
      (with_reducible refine (IT.out _).mono ?_)
      rintro en u20 ⟨rfl, d20⟩
      have OD : OldB W u20 := OldB.then OD d20
      clear d20
      have PF : Hid (R = dt) := Lib.hid (by rw [PM.out]; simp)
      go_wp2_with fail
      go_ret
      exact ⟨by rw [PF.out]; rfl, BA.out _ OD⟩
    have G2 := Lib.hid hk
    have ek2 : (r.kind == 2) = false := by simpa using hk
    clear hk
    by_cases hk : r.kind = 3
    · skip
      have ek1 : (r.kind == 1) = false := by rw [hk]; rfl
      have ek2 : (r.kind == 2) = false := by rw [hk]; rfl
      have ek3 : (r.kind == 3) = true := by rw [hk]; rfl
      have ek4 : (r.kind == 4) = false := by rw [hk]; rfl
      have ek5 : (r.kind == 5) = false := by rw [hk]; rfl
      have G := Lib.hid hk
      clear hk
      have PM : Hid (R = (inB r.order 1 4 && ((r.target == r.target) && (r.yes == false) && (r.order == r.order) && (r.frm == []) && (decide (0 < (edsC r.edits).length) == (r.order == 3)) && (!true || Dg.isD r.target)))) := Lib.hid (by rw [PM.out]; unfold kindR; rw [if_neg (show ¬ r.c.kind = 1 from G1.out), if_neg (show ¬ r.c.kind = 2 from G2.out), if_pos (show r.c.kind = 3 from G.out)]; rfl)
      simp only [eq1, eq3, eq4, eq6, eq7, el, beq_self_eq_true, Bool.true_and] at PM
      generalize Dg.isD r.target = dt at *
      generalize inB r.order 1 4 = io at *
      go_upto_region 21 with fail
      (refine wp_region_noPanic ?_; refine wp_region_held_drew (S := (OldB W)) (by kernel_rfl) ?_ (fun hHeld => ?_); exact Below.drew OD)
      (refine tkW 0 ?_; try simp only [gmS])
      (refine tkW 1 ?_; try simp only [gmS])
      (refine tkW 2 ?_; try simp only [gmS])
      (refine tkW 3 ?_; try simp only [gmS])
      (refine tkW 4 ?_; try simp only [gmS])
      (refine tkW 5 ?_; try simp only [gmS])
      (refine tkW 6 ?_; try simp only [gmS])
      (refine tkW 7 ?_; try simp only [gmS])
      (refine tkW 8 ?_; try simp only [gmS])
      (refine tkW 9 ?_; try simp only [gmS])
      have OD := hHeld
      (refine wpAnyH_done (by kernel_rfl) ?_ _; refine NoPanic.normal ?_)
      go_wp2_with fail
      (with_reducible refine (W4.out _).mono ?_)
      rintro en u21 ⟨rfl, d21⟩
      have OD : OldB W u21 := OldB.then OD d21
      clear d21
      cases io
      · skip
        have RF : Hid (R = false) := Lib.hid (by rw [PM.out]; simp)
        go_wp2_with fail
        go_ret
        exact ⟨by rw [RF.out]; rfl, BA.out _ OD⟩
      generalize r.yes = ye at *
      cases ye
      rotate_left
      · skip
        have RF : Hid (R = false) := Lib.hid (by rw [PM.out]; simp)
        go_wp2_with fail
        go_ret
        exact ⟨by rw [RF.out]; rfl, BA.out _ OD⟩
      cases q4
      · skip
        have RF : Hid (R = false) := Lib.hid (by rw [PM.out]; simp)
        go_wp2_with fail
        go_ret
        exact ⟨by rw [RF.out]; rfl, BA.out _ OD⟩
      cases q5
      · skip
        cases q6
        · skip
          go_wp2_with fail
          (with_reducible refine (IT.out _).mono ?_)
          rintro en u22 ⟨rfl, d22⟩
          have OD : OldB W u22 := OldB.then OD d22
          clear d22
          have PF : Hid (R = dt) := Lib.hid (by rw [PM.out]; simp)
          go_wp2_with fail
          go_ret
          exact ⟨by rw [PF.out]; rfl, BA.out _ OD⟩
        · skip
          have RF : Hid (R = false) := Lib.hid (by rw [PM.out]; simp)
          go_wp2_with fail
          go_ret
          exact ⟨by rw [RF.out]; rfl, BA.out _ OD⟩
      · skip
        cases q6
        · skip
          have RF : Hid (R = false) := Lib.hid (by rw [PM.out]; simp)
          go_wp2_with fail
          go_ret
          exact ⟨by rw [RF.out]; rfl, BA.out _ OD⟩
        · skip
          go_wp2_with fail
          (with_reducible refine (IT.out _).mono ?_)
          rintro en u23 ⟨rfl, d23⟩
          have OD : OldB W u23 := OldB.then OD d23
          clear d23
          have PF : Hid (R = dt) := Lib.hid (by rw [PM.out]; simp)
          go_wp2_with fail
          go_ret
          exact ⟨by rw [PF.out]; rfl, BA.out _ OD⟩
    have G3 := Lib.hid hk
    have ek3 : (r.kind == 3) = false := by simpa using hk
    clear hk
    by_cases hk : r.kind = 4
    · skip
      have ek1 : (r.kind == 1) = false := by rw [hk]; rfl
      have ek2 : (r.kind == 2) = false := by rw [hk]; rfl
      have ek3 : (r.kind == 3) = false := by rw [hk]; rfl
      have ek4 : (r.kind == 4) = true := by rw [hk]; rfl
      have ek5 : (r.kind == 5) = false := by rw [hk]; rfl
      have G := Lib.hid hk
      clear hk
      have PM : Hid (R = (At.nameB r.frm && !(r.frm == r.branch) && ((r.target == []) && (r.yes == false) && (r.order == 0) && (r.frm == r.frm) && (decide (0 < (edsC r.edits).length) == false) && (!false || Dg.isD [])))) := Lib.hid (by rw [PM.out]; unfold kindR; rw [if_neg (show ¬ r.c.kind = 1 from G1.out), if_neg (show ¬ r.c.kind = 2 from G2.out), if_neg (show ¬ r.c.kind = 3 from G3.out), if_pos (show r.c.kind = 4 from G.out)]; rfl)
      simp only [eq1, eq3, eq4, eq6, eq7, el, beq_self_eq_true, Bool.true_and] at PM
      generalize At.nameB r.frm = nf at *
      go_wp2_with fail
      (with_reducible refine (NF.out _).mono ?_)
      rintro en u24 ⟨rfl, d24⟩
      have OD : OldB W u24 := OldB.then OD d24
      clear d24
      cases nf
      · skip
        have RF : Hid (R = false) := Lib.hid (by rw [PM.out]; simp)
        go_wp2_with fail
        go_ret
        exact ⟨by rw [RF.out]; rfl, BA.out _ OD⟩
      cases q7
      rotate_left
      · skip
        have RF : Hid (R = false) := Lib.hid (by rw [PM.out]; simp)
        go_wp2_with fail
        go_ret
        exact ⟨by rw [RF.out]; rfl, BA.out _ OD⟩
      generalize r.yes = ye at *
      cases q1
      · skip
        have RF : Hid (R = false) := Lib.hid (by rw [PM.out]; simp)
        go_wp2_with fail
        go_ret
        exact ⟨by rw [RF.out]; rfl, BA.out _ OD⟩
      cases ye
      rotate_left
      · skip
        have RF : Hid (R = false) := Lib.hid (by rw [PM.out]; simp)
        go_wp2_with fail
        go_ret
        exact ⟨by rw [RF.out]; rfl, BA.out _ OD⟩
      cases q3
      · skip
        have RF : Hid (R = false) := Lib.hid (by rw [PM.out]; simp)
        go_wp2_with fail
        go_ret
        exact ⟨by rw [RF.out]; rfl, BA.out _ OD⟩
      cases q5
      rotate_left
      · skip
        have RF : Hid (R = false) := Lib.hid (by rw [PM.out]; simp)
        go_wp2_with fail
        go_ret
        exact ⟨by rw [RF.out]; rfl, BA.out _ OD⟩
      have PF : Hid (R = true) := Lib.hid (by rw [PM.out]; simp)
      go_wp2_with fail
      go_ret
      exact ⟨by rw [PF.out]; rfl, BA.out _ OD⟩
    have G4 := Lib.hid hk
    have ek4 : (r.kind == 4) = false := by simpa using hk
    clear hk
    by_cases hk : r.kind = 5
    · skip
      have ek1 : (r.kind == 1) = false := by rw [hk]; rfl
      have ek2 : (r.kind == 2) = false := by rw [hk]; rfl
      have ek3 : (r.kind == 3) = false := by rw [hk]; rfl
      have ek4 : (r.kind == 4) = false := by rw [hk]; rfl
      have ek5 : (r.kind == 5) = true := by rw [hk]; rfl
      have G := Lib.hid hk
      clear hk
      have PM : Hid (R = ((r.target == []) && (r.yes == false) && (r.order == 0) && (r.frm == []) && (decide (0 < (edsC r.edits).length) == false) && (!false || Dg.isD []))) := Lib.hid (by rw [PM.out]; unfold kindR; rw [if_neg (show ¬ r.c.kind = 1 from G1.out), if_neg (show ¬ r.c.kind = 2 from G2.out), if_neg (show ¬ r.c.kind = 3 from G3.out), if_neg (show ¬ r.c.kind = 4 from G4.out), if_pos (show r.c.kind = 5 from G.out)]; rfl)
      simp only [eq1, eq3, eq4, eq6, eq7, el, beq_self_eq_true, Bool.true_and] at PM
      generalize r.yes = ye at *
      cases q1
      · skip
        have RF : Hid (R = false) := Lib.hid (by rw [PM.out]; simp)
        go_wp2_with fail
        go_ret
        exact ⟨by rw [RF.out]; rfl, BA.out _ OD⟩
      cases ye
      rotate_left
      · skip
        have RF : Hid (R = false) := Lib.hid (by rw [PM.out]; simp)
        go_wp2_with fail
        go_ret
        exact ⟨by rw [RF.out]; rfl, BA.out _ OD⟩
      cases q3
      · skip
        have RF : Hid (R = false) := Lib.hid (by rw [PM.out]; simp)
        go_wp2_with fail
        go_ret
        exact ⟨by rw [RF.out]; rfl, BA.out _ OD⟩
      cases q4
      · skip
        have RF : Hid (R = false) := Lib.hid (by rw [PM.out]; simp)
        go_wp2_with fail
        go_ret
        exact ⟨by rw [RF.out]; rfl, BA.out _ OD⟩
      cases q5
      rotate_left
      · skip
        have RF : Hid (R = false) := Lib.hid (by rw [PM.out]; simp)
        go_wp2_with fail
        go_ret
        exact ⟨by rw [RF.out]; rfl, BA.out _ OD⟩
      have PF : Hid (R = true) := Lib.hid (by rw [PM.out]; simp)
      go_wp2_with fail
      go_ret
      exact ⟨by rw [PF.out]; rfl, BA.out _ OD⟩
    have G5 := Lib.hid hk
    have ek5 : (r.kind == 5) = false := by simpa using hk
    clear hk
    have PM : Hid (R = false) := Lib.hid (by rw [PM.out]; unfold kindR; rw [if_neg (show ¬ r.c.kind = 1 from G1.out), if_neg (show ¬ r.c.kind = 2 from G2.out), if_neg (show ¬ r.c.kind = 3 from G3.out), if_neg (show ¬ r.c.kind = 4 from G4.out), if_neg (show ¬ r.c.kind = 5 from G5.out)])
    go_wp2_with fail
    go_ret
    exact ⟨by rw [PM.out]; rfl, BA.out _ OD⟩
end Go.Proofs.YtniklmikdkjgiaaGreatDoor
