/- WALKS: ref29.Is, Edits, Same, All; law29.few. -/
import Derived.Test.YtniklmikdkjgiaaGreatDoorME
import Derived.Test.YtniklmikdkjgiaaGreatDoorXJ
import Derived.Test.YtniklmikdkjgiaaGreatDoorWD
set_option linter.unusedSimpArgs false
set_option linter.unusedVariables false
namespace Go.Proofs.YtniklmikdkjgiaaGreatDoor
open Go.RowKit

/-- the edits of a record where they lie -/
def EdIs (w : World) (r : RV) : Prop := ∃ A c, r.edv = .slice A r.edits.length c ∧ Es w A r.edits
theorem EdIs.below {w w' : World} {r : RV} (h : EdIs w r) (hb : Below w.heap.size w w') : EdIs w' r := by
  obtain ⟨A, c, e, he⟩ := h; exact ⟨A, c, e, he.below hb⟩
set_option maxHeartbeats 1000000 in
set_option maxRecDepth 100000 in
theorem is29_any (x : WoV) (y : Int) (w : World) (hx : WoIs w x) (hm : x.mods.length ≤ 1000000) :
    Calls Tryz.prog 35 #[woA x, .int .i64 y] w fun e w' => e = .returned (.bool (inI x.mods y)) ∧ Below w.heap.size w w' := by
  obtain ⟨A, c, e2, hr⟩ := hx.ms
  unfold woA
  obtain ⟨V, hV⟩ : ∃ V, V = w.alloc (.cells (woL x).toArray 38) := ⟨_, rfl⟩
  obtain ⟨bw, hbw⟩ : ∃ bw, w.heap.size = bw := ⟨_, rfl⟩
  have BV : Below w.heap.size w V := by rw [hV]; exact (Below.refl _ _).alloc (Nat.le_refl _) _
  have XV : V.heap[bw]? = some (.cells (woL x).toArray 38 (0, 0)) := by rw [hV, ← hbw]; exact heap_alloc_new w _
  have MV : V.cell? ⟨bw, 2, none⟩ = some (.slice A x.mods.length c) := by
    have := load_block (i := 2) XV rfl
    rw [← e2]; exact this
  have HI := Lib.hid (hr.below BV)
  generalize x.mods = l at *
  obtain ⟨n, hn⟩ : ∃ n, l.length = n := ⟨_, rfl⟩
  rw [hn] at MV hm
  have HN : Hid (n = l.length) := Lib.hid hn.symm
  obtain ⟨R, hR⟩ : ∃ R, inI l y = R := ⟨_, rfl⟩
  have HR : Hid (R = inI (l.drop 0) y) := Lib.hid hR.symm
  rw [hR]
  generalize (woL x).toArray = xw at *
  have X0 := Lib.hid hV
  have X1 := Lib.hid hbw
  have BH := Lib.hid BV
  clear hR hn hx hV hbw BV hr e2 XV
  go_enter Tryz.func35, Tryz.ntmps35
  go_upto_region 1 with fail
  rw [← X0.out, X1.out]
  clear X0 X1
  go_wp2_with fail
  go_loopw [5] (fun s5 wr => ∃ k : Nat, k ≤ n ∧ s5 = .int .i64 (k : Int) ∧ Hid (R = inI (l.drop k) y) ∧ wr = V) (fun i _ => n - (intOf i).toNat)
  case atStart => exact ⟨0, Nat.zero_le _, rfl, HR, rfl⟩
  case round =>
    clear HR
    obtain ⟨k, hkn, rfl, HR, rfl⟩ := hrel
    by_cases hlt : k < n
    · have hkl : k < l.length := by rw [← HN.out]; exact hlt
      have d1 : (k : Int) < (n : Int) := by omega
      have d2 : (0 : Int) ≤ (k : Int) := by omega
      obtain ⟨b, off, rfl, hb, c0⟩ := ints_at HI.out hkl
      have RK : Hid (R = ((l[k] == y) || inI (l.drop (k + 1)) y)) := Lib.hid (by rw [HR.out, List.drop_eq_getElem_cons hkl]; unfold inI; rw [List.any_cons])
      clear HR
      generalize l[k] = z at *
      by_cases he : z = y
      · have e1 : (z == y) = true := by rw [he]; simp
        have RT : Hid (R = true) := Lib.hid (by rw [RK.out, e1, Bool.true_or])
        clear RK he
        go_wp2_with fail
        go_ret
        exact ⟨by rw [RT.out]; rfl, BH.out⟩
      · have e1 : (z == y) = false := by simpa using he
        have R2 : Hid (R = inI (l.drop (k + 1)) y) := Lib.hid (by rw [RK.out, e1, Bool.false_or])
        clear RK he
        go_wp2_with fail
        exact ⟨⟨k + 1, by omega, by go_num, R2, by first | rfl | trivial⟩, by simp [intOf]; omega⟩
    · have d1 : ¬ (k : Int) < (n : Int) := by omega
      have RF : Hid (R = false) := Lib.hid (by rw [HR.out, List.drop_eq_nil_of_le (by rw [← HN.out]; omega)]; rfl)
      clear HR
      go_wp2_with fail
      go_ret
      exact ⟨by rw [RF.out]; rfl, BH.out⟩
set_option maxHeartbeats 1000000 in
set_option maxRecDepth 100000 in
theorem edits29_any (A B : Option Addr) (c d : Nat) (l m : List EV) (n1 n2 : Nat) (w : World) (hn1 : n1 = l.length) (hn2 : n2 = m.length) (h : Es w A l) (h2 : Es w B m) :
    Calls Tryz.prog 38 #[.slice A n1 c, .slice B n2 d] w fun e w' => e = .returned (.bool (all2 (fun a b => sameE a.c b.c) l m)) ∧ Below w.heap.size w w' := by
  have RE := Lib.hid (redits_any A B c d l m n1 n2 w hn1 hn2 h h2)
  clear h h2 hn1 hn2
  generalize all2 (fun a b => sameE a.c b.c) l m = q at *
  go_enter Tryz.func38, Tryz.ntmps38
  go_wp2_with fail
  (with_reducible refine RE.out.mono ?_)
  rintro e u1 ⟨rfl, b1⟩
  have B1 := Lib.hid b1
  clear b1 RE
  go_wp2_with fail
  go_ret
  exact ⟨rfl, B1.out⟩
theorem sameX_ev (a b : Sx) : sameX a b = (decide (a.id = b.id) && decide (a.st = b.st) && decide (a.by_ = b.by_) && all2 (fun x y => sameE x.c y.c) a.cur.edits b.cur.edits) := by
  unfold sameX edsC; rw [all2_map]
set_option maxHeartbeats 2000000 in
set_option maxRecDepth 100000 in
theorem same29_any (a b : Sx) (w : World) (ha : EdIs w a.cur) (hb : EdIs w b.cur) :
    Calls Tryz.prog 34 #[.agg (stL a).toArray, .agg (stL b).toArray] w fun e w' => e = .returned (.bool (sameX a b)) ∧ Below w.heap.size w w' := by
  have SX := Lib.hid (sameX_ev a b)
  obtain ⟨A1, c1, v1, h1⟩ := ha
  obtain ⟨A2, c2, v2, h2⟩ := hb
  unfold stL
  rw [v1, v2]
  have ER : Hid (∀ u, Below w.heap.size w u → Calls Tryz.prog 38 #[.slice A1 a.cur.edits.length c1, .slice A2 b.cur.edits.length c2] u fun e w' => e = .returned (.bool (all2 (fun x y => sameE x.c y.c) a.cur.edits b.cur.edits)) ∧ Below u.heap.size u w') := Lib.hid (fun u hu => edits29_any A1 A2 c1 c2 _ _ _ _ u rfl rfl (h1.below hu) (h2.below hu))
  have t1 := tx_beq a.id b.id
  have t2 := tx_beq a.by_ b.by_
  generalize all2 (fun x y => sameE x.c y.c) a.cur.edits b.cur.edits = qe at *
  generalize a.cur.edits.length = n1 at *
  generalize b.cur.edits.length = n2 at *
  generalize sameX a b = R at *
  generalize decide (a.id = b.id) = q1 at *
  generalize decide (a.by_ = b.by_) = q3 at *
  generalize mkB a.id = ai at *
  generalize mkB b.id = bi at *
  generalize mkB a.by_ = ay at *
  generalize mkB b.by_ = by_ at *
  generalize a.st = azt at *
  generalize b.st = bs at *
  clear h1 h2 v1 v2
  obtain ⟨W, hW⟩ : ∃ W, W = (w.alloc (.cells #[.string ai, .int .i64 azt, .string ay, .slice A1 n1 c1] 42)).alloc (.cells #[.string bi, .int .i64 bs, .string by_, .slice A2 n2 c2] 42) := ⟨_, rfl⟩
  have BW : Hid (Below w.heap.size w W) := Lib.hid (by rw [hW]; exact ((Below.refl _ _).alloc (Nat.le_refl _) _).alloc (by simp) _)
  have HX : W.heap[w.heap.size]? = some (.cells #[.string ai, .int .i64 azt, .string ay, .slice A1 n1 c1] 42 (0, 0)) := by rw [hW]; exact (alloc_old _ _ (by simp)).trans (heap_alloc_new w _)
  have HY : W.heap[w.heap.size + 1]? = some (.cells #[.string bi, .int .i64 bs, .string by_, .slice A2 n2 c2] 42 (0, 0)) := by rw [hW]; exact alloc_new' _ _ _ (by simp)
  have x0 := load_block (i := 0) HX rfl
  have x1 := load_block (i := 1) HX rfl
  have x2 := load_block (i := 2) HX rfl
  have x3 := load_block (i := 3) HX rfl
  have y0 := load_block (i := 0) HY rfl
  have y1 := load_block (i := 1) HY rfl
  have y2 := load_block (i := 2) HY rfl
  have y3 := load_block (i := 3) HY rfl
  have EW := Lib.hid (ER.out W BW.out)
  have X0 := Lib.hid hW
  clear hW HX HY ER
  cases q1
  · have PF : Hid (R = false) := Lib.hid (by rw [SX.out]; rfl)
    clear SX
    go_enter Tryz.func34, Tryz.ntmps34
    go_upto_region 1 with fail
    rw [← X0.out]
    go_wp2_with fail
    go_ret
    exact ⟨by rw [PF.out]; rfl, BW.out⟩
  by_cases hs : azt = bs
  case neg =>
    have es : (azt == bs) = false := by simpa using hs
    have PF : Hid (R = false) := Lib.hid (by rw [SX.out, decide_eq_false hs]; rfl)
    clear SX hs
    go_enter Tryz.func34, Tryz.ntmps34
    go_upto_region 1 with fail
    rw [← X0.out]
    go_wp2_with fail
    go_ret
    exact ⟨by rw [PF.out]; rfl, BW.out⟩
  have es : (azt == bs) = true := by rw [hs]; simp
  have SX := Lib.hid (SX.out.trans (by rw [decide_eq_true hs, Bool.true_and]))
  clear hs
  cases q3
  · have PF : Hid (R = false) := Lib.hid (by rw [SX.out]; rfl)
    clear SX
    go_enter Tryz.func34, Tryz.ntmps34
    go_upto_region 1 with fail
    rw [← X0.out]
    go_wp2_with fail
    go_ret
    exact ⟨by rw [PF.out]; rfl, BW.out⟩
  · have PF : Hid (R = qe) := Lib.hid (by rw [SX.out]; simp)
    clear SX
    go_enter Tryz.func34, Tryz.ntmps34
    go_upto_region 1 with fail
    rw [← X0.out]
    go_wp2_with fail
    (with_reducible refine EW.out.mono ?_)
    rintro e u1 ⟨rfl, b1⟩
    have B1 := Lib.hid (BW.out.trans (b1.mono BW.out.size))
    clear b1 EW
    go_wp2_with fail
    go_ret
    exact ⟨by rw [PF.out]; rfl, B1.out⟩
theorem mst_szL (x : Sx) : (Tryz.prog.info? 42).map (·.size) = some (stL x).length := by kernel_rfl
set_option maxHeartbeats 2000000 in
set_option maxRecDepth 100000 in
theorem all29_any (A B : Option Addr) (c d : Nat) (l m : List Sx) (n1 n2 : Nat) (w : World) (hn1 : n1 = l.length) (hn2 : n2 = m.length) (hl : n1 ≤ 1000000) (hm : n2 ≤ 1000000) (h : Rd w A (stsL l)) (h2 : Rd w B (stsL m)) (k1 : ∀ e ∈ l, EdIs w e.cur) (k2 : ∀ e ∈ m, EdIs w e.cur) :
    Calls Tryz.prog 31 #[.slice A n1 c, .slice B n2 d] w fun e w' => e = .returned (.bool (all2 sameX l m)) ∧ Below w.heap.size w w' := by
  have H := Lib.hid h
  have H2 := Lib.hid h2
  have K1 := Lib.hid k1
  have K2 := Lib.hid k2
  have HN := Lib.hid hn1
  have HM := Lib.hid hn2
  clear hn1 hn2 h h2 k1 k2
  obtain ⟨R, hR⟩ : ∃ R, all2 sameX l m = R := ⟨_, rfl⟩
  have HR := Lib.hid hR
  rw [hR]
  clear hR
  have B0 : Hid (Below w.heap.size w w) := Lib.hid (Below.refl _ _)
  by_cases hlen : n1 = n2
  · have hq : ((n1 : Int) != (n2 : Int)) = false := by rw [hlen]; simp
    have HL := Lib.hid hlen
    have HR0 : Hid (R = all2 sameX (l.drop 0) (m.drop 0)) := Lib.hid HR.out.symm
    clear hlen HR
    go_enter Tryz.func31, Tryz.ntmps31
    go_wp2_with fail
    go_loopw [5] (fun i wr => ∃ k : Nat, k ≤ n1 ∧ i = .int .i64 (k : Int) ∧ Hid (R = all2 sameX (l.drop k) (m.drop k)) ∧ Hid (Below w.heap.size w wr)) (fun i _ => n1 - (intOf i).toNat)
    case atStart => exact ⟨0, Nat.zero_le _, rfl, HR0, B0⟩
    case round =>
      clear B0 HR0
      obtain ⟨k, hk, rfl, HR, BL⟩ := hrel
      by_cases hlt : k < n1
      · have hkl : k < l.length := by rw [← HN.out]; exact hlt
        have hkm : k < m.length := by rw [← HM.out, ← HL.out]; exact hlt
        have d1 : (k : Int) < (n1 : Int) := by omega
        have d3 : (k : Int) < (n2 : Int) := by have := HL.out; omega
        have d2 : (0 : Int) ≤ (k : Int) := by omega
        obtain ⟨b, off, rfl, hb, hc⟩ := rd_rows 4 (by decide) (fun _ => rfl) (H.out.below BL.out) hkl
        obtain ⟨b', off', rfl, hb', hc'⟩ := rd_rows 4 (by decide) (fun _ => rfl) (H2.out.below BL.out) hkm
        have LA := Lib.hid (rangeAt_old (cs := stL l[k]) hb hc)
        have LB := Lib.hid (rangeAt_old (cs := stL m[k]) hb' hc')
        have HO := K1.out l[k] (List.getElem_mem hkl)
        have HO' := K2.out m[k] (List.getElem_mem hkm)
        have HD : Hid (R = (sameX l[k] m[k] && all2 sameX (l.drop (k + 1)) (m.drop (k + 1)))) := Lib.hid (HR.out.trans (all2_drop hkl hkm))
        clear HR hc hc'
        generalize l[k] = x at *
        generalize m[k] = y at *
        have SM : Hid (∀ u, OldB wr u → Calls Tryz.prog 34 #[.agg (stL x).toArray, .agg (stL y).toArray] u fun e w' => e = .returned (.bool (sameX x y)) ∧ Below u.heap.size u w') := Lib.hid (fun u hu => same29_any x y u (HO.below (BL.out.trans (Below.mono hu BL.out.size))) (HO'.below (BL.out.trans (Below.mono hu BL.out.size))))
        clear HO HO'
        have ZX := mst_szL x
        have ZY := mst_szL y
        generalize stL x = xs at *
        generalize stL y = ys at *
        generalize sameX x y = q at *
        go_wp2_with fail
        (refine wp_region_noPanic ?_; refine wp_region_held_drew (S := (OldB wr)) (by kernel_rfl) ?_ (fun hHeld => ?_); exact Below.drew (Below.refl _ _))
        (refine tkW 0 ?_; try simp only [gmS])
        (refine tkW 1 ?_; try simp only [gmS])
        (refine tkW 2 ?_; try simp only [gmS])
        (refine ldW 3 42 (.tmp 19) b (off + k * 4) xs _ LA.out Tryz.underlying42 ZX ?_; try simp only [gmS])
        (refine tkW 4 ?_; try simp only [gmS])
        (refine tkW 5 ?_; try simp only [gmS])
        (refine tkW 6 ?_; try simp only [gmS])
        (refine ldW 7 42 (.tmp 23) b' (off' + k * 4) ys _ LB.out Tryz.underlying42 ZY ?_; try simp only [gmS])
        (refine rdW 8 (fun K hK => ?_); go_simp)
        (with_reducible refine (SM.out _ hHeld).mono ?_)
        rintro e w1 ⟨rfl, b1⟩
        (refine hK.out _ _ (OldB.then hHeld b1) (fun hHeld2 => ?_); clear hK K hHeld; have hHeld := hHeld2; clear hHeld2; try simp only [gmS])
        (refine tkW 9 ?_; try simp only [gmS])
        have B1 := Lib.hid (BL.out.trans (Below.mono hHeld BL.out.size))
        (refine wpAnyH_done (by kernel_rfl) ?_ _; refine NoPanic.normal ?_)
        clear hHeld SM LA LB
        cases q
        · have RF : Hid (R = false) := Lib.hid (by rw [HD.out, Bool.false_and])
          clear HD
          go_wp2_with fail
          go_ret
          exact ⟨by rw [RF.out]; rfl, B1.out⟩
        · have R2 : Hid (R = all2 sameX (l.drop (k + 1)) (m.drop (k + 1))) := Lib.hid (by rw [HD.out, Bool.true_and])
          clear HD
          go_wp2_with fail
          exact ⟨⟨k + 1, by omega, by go_num, R2, B1⟩, by simp [intOf]; omega⟩
      · have d1 : ¬ (k : Int) < (n1 : Int) := by omega
        have RT : Hid (R = true) := Lib.hid (HR.out.trans (all2_end (by rw [← HN.out]; omega) (by rw [← HM.out, ← HL.out]; omega)))
        clear HR
        go_wp2_with fail
        go_ret
        exact ⟨by rw [RT.out]; rfl, BL.out⟩
  · have hq : ((n1 : Int) != (n2 : Int)) = true := by simp; omega
    have RF : Hid (R = false) := Lib.hid (HR.out.symm.trans (all2_ne (by rw [← HN.out, ← HM.out]; exact hlen)))
    clear hlen HR
    go_enter Tryz.func31, Tryz.ntmps31
    go_wp2_with fail
    go_ret
    exact ⟨by rw [RF.out]; rfl, B0.out⟩
set_option maxHeartbeats 1000000 in
set_option maxRecDepth 100000 in
theorem few29_any (A : Option Addr) (n c : Nat) (l : List RV) (x : WoV) (w : World) (hn : n = l.length) (h : Rw w A l) (hx : WoIs w x) :
    Calls Tryz.prog 28 #[.slice A n c, woA x] w fun e w' => e = .returned (.bool (fewL (rcsC l) 20 && decide (x.mods.length ≤ 60))) ∧ Below w.heap.size w w' := by
  obtain ⟨A2, c2, e2, hr⟩ := hx.ms
  have ml := hx.ml
  unfold woA
  obtain ⟨V, hV⟩ : ∃ V, V = w.alloc (.cells (woL x).toArray 38) := ⟨_, rfl⟩
  obtain ⟨bw, hbw⟩ : ∃ bw, w.heap.size = bw := ⟨_, rfl⟩
  have BV : Below w.heap.size w V := by rw [hV]; exact (Below.refl _ _).alloc (Nat.le_refl _) _
  have XV : V.heap[bw]? = some (.cells (woL x).toArray 38 (0, 0)) := by rw [hV, ← hbw]; exact heap_alloc_new w _
  have MV : ∀ u, OldB V u → u.cell? ⟨bw, 2, none⟩ = some (.slice A2 x.mods.length c2) := fun u hu => by
    have := load_block (i := 2) ((Below.block hu bw (lt_of_block XV)).trans XV) rfl
    rw [← e2]; exact this
  have FW0 := fewrs_any A n c l 20 V hn (by decide) (h.below BV)
  rw [show ((20 : Nat) : Int) = 20 from rfl] at FW0
  have FW := Lib.hid FW0
  clear FW0
  generalize fewL (rcsC l) 20 = q at *
  generalize x.mods.length = m at *
  generalize (woL x).toArray = xw at *
  have X0 := Lib.hid hV
  have X1 := Lib.hid hbw
  have BH := Lib.hid BV
  clear h hx hV hbw BV hr e2 XV hn
  go_enter Tryz.func28, Tryz.ntmps28
  go_upto_region 1 with fail
  rw [← X0.out, X1.out]
  clear X0 X1
  go_wp2_with fail
  (with_reducible refine FW.out.mono ?_)
  rintro e u1 ⟨rfl, b1⟩
  have B1 := Lib.hid (BH.out.trans (b1.mono BH.out.size))
  have mv := MV u1 b1
  clear b1 FW MV BH
  cases q
  · go_wp2_with fail
    go_ret
    exact ⟨rfl, B1.out⟩
  · by_cases hm : m ≤ 60
    · have e1 : decide ((m : Int) ≤ 60) = true := decide_eq_true (by omega)
      have e2 : (true && decide (m ≤ 60)) = true := by rw [decide_eq_true hm]; rfl
      have e3 : (m : Int) ≤ 60 := by omega
      have E2 := Lib.hid e2
      clear hm e2
      go_wp2_with fail
      go_ret
      exact ⟨by rw [E2.out]; rfl, B1.out⟩
    · have e1 : decide ((m : Int) ≤ 60) = false := decide_eq_false (by omega)
      have e2 : (true && decide (m ≤ 60)) = false := by rw [decide_eq_false hm]; rfl
      have E2 := Lib.hid e2
      clear hm e2
      go_wp2_with fail
      go_ret
      exact ⟨by rw [E2.out]; rfl, B1.out⟩
end Go.Proofs.YtniklmikdkjgiaaGreatDoor
