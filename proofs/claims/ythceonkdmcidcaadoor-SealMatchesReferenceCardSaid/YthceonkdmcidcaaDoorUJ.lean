/- WALK: the reference's Verify. -/
import Derived.Test.YthceonkdmcidcaaDoorUH
import Derived.Deep.DeepCutAuto
import Derived.BigQuiet
set_option linter.unusedSimpArgs false
set_option linter.unusedVariables false
namespace Go.Proofs.YthceonkdmcidcaaDoor
open Go.RowKit

theorem cmp_pub (a : List UInt8) (pub : ByteArray) : ((mkB a).toList == pub.toList) = decide (a = pub.data.toList) := by
  rw [str_eq]
  by_cases h : a = pub.data.toList
  · rw [decide_eq_true h, decide_eq_true (by rw [h, mkB_of])]
  · rw [decide_eq_false h, decide_eq_false (fun e => h (by rw [← e, mkB_list]))]
theorem pair_back (ii : Nat) (a y : List UInt8) : pairB a y (decide (ii % 2 = 1)) = Sl.pairT ii a y := by
  unfold pairB Sl.pairT
  by_cases h : ii % 2 = 1
  · rw [decide_eq_true h, if_pos h]; rfl
  · rw [decide_eq_false h, if_neg h]; rfl
/-- the reference's Verify refuses ahead of its loops -/
def NoF (idx : Int) (n1 n2 : Nat) : Prop := n1 ≠ 18 ∨ (n1 = 18 ∧ 8 < n2) ∨ (n1 = 18 ∧ n2 ≤ 8 ∧ idx < 0) ∨ (n1 = 18 ∧ n2 ≤ 8 ∧ 0 ≤ idx ∧ ((2 ^ n2 : Nat) : Int) ≤ idx)
set_option maxRecDepth 100000 in
set_option maxHeartbeats 4000000 in
theorem rverify_no (pub m : ByteArray) (idx : Int) (A1 A2 : Option Addr) (c1 c2 n1 n2 : Nat) (w : World) (hn1 : n1 ≤ 1000) (hn2 : n2 ≤ 1000) (hno : NoF idx n1 n2) :
    Calls Tryd.prog 19 #[.string pub, .string m, .agg #[.int .i64 idx, .slice A1 n1 c1, .slice A2 n2 c2]] w fun e w' => e = .returned (.bool false) ∧ Below w.heap.size w w' := by
  obtain ⟨B, hB⟩ : ∃ B, w.heap.size = B := ⟨_, rfl⟩
  have HW : Hid (w.heap.size = B) := Lib.hid hB
  obtain ⟨W0, hW0⟩ : ∃ W0, W0 = w.alloc (.cells #[.int .i64 idx, .slice A1 n1 c1, .slice A2 n2 c2] 24) := ⟨_, rfl⟩
  have F0 : Hid (W0.heap[B]? = some (.cells #[.int .i64 idx, .slice A1 n1 c1, .slice A2 n2 c2] 24 (0, 0))) := Lib.hid (by rw [hW0, ← hB]; exact heap_alloc_new w _)
  have bel0 : Hid (Below B w W0) := Lib.hid (by rw [hW0, ← hB]; exact (Below.refl _ _).alloc (Nat.le_refl _) _)
  obtain ⟨x0, x1, x2⟩ := cells3 F0.out
  rcases hno with k1 | ⟨k1, k2⟩ | ⟨k1, k2, k3⟩ | ⟨k1, k2, k3, k4⟩
  · have e1 : ((n1 : Int) != 18) = true := by simp; omega
    clear k1
    go_enter Tryd.func19, Tryd.ntmps19
    go_wp2_with fail
    rw [← hW0]
    clear hW0 hB
    go_quiet (fail)
    go_wp2_with fail
    go_ret
    exact ⟨rfl, by rw [HW.out]; first | exact below_drewN bel0.out _ | exact bel0.out.drew⟩
  · have e1 : ((n1 : Int) != 18) = false := by simp; omega
    have e2 : decide ((8 : Int) < (n2 : Int)) = true := by simp; omega
    clear k1 k2
    go_enter Tryd.func19, Tryd.ntmps19
    go_wp2_with fail
    rw [← hW0]
    clear hW0 hB
    go_quiet (fail)
    go_wp2_with fail
    go_ret
    exact ⟨rfl, by rw [HW.out]; first | exact below_drewN bel0.out _ | exact bel0.out.drew⟩
  · have e1 : ((n1 : Int) != 18) = false := by simp; omega
    have e2 : decide ((8 : Int) < (n2 : Int)) = false := by simp; omega
    have e5 : decide (idx < 0) = true := by simpa using k3
    clear k1 k2 k3
    go_enter Tryd.func19, Tryd.ntmps19
    go_wp2_with fail
    rw [← hW0]
    clear hW0 hB
    go_quiet (fail)
    go_wp2_with fail
    go_ret
    exact ⟨rfl, by rw [HW.out]; first | exact below_drewN bel0.out _ | exact bel0.out.drew⟩
  · have e1 : ((n1 : Int) != 18) = false := by simp; omega
    have e2 : decide ((8 : Int) < (n2 : Int)) = false := by simp; omega
    have e5 : decide (idx < 0) = false := by simpa using k3
    have PA := Lib.hid (fun u => rpower_any (n2 : Int) n2 u rfl (by omega))
    generalize 2 ^ n2 = q at *
    have e6 : decide ((q : Int) ≤ idx) = true := by simpa using k4
    clear k1 k2 k3 k4
    go_enter Tryd.func19, Tryd.ntmps19
    go_wp2_with fail
    rw [← hW0]
    clear hW0 hB
    go_quiet ((go_at_call 33; exact qs0 (PA.out _)))
    go_wp2_with fail
    go_ret
    exact ⟨rfl, by rw [HW.out]; first | exact below_drewN bel0.out _ | exact bel0.out.drew⟩
set_option maxRecDepth 100000 in
set_option maxHeartbeats 8000000 in
theorem rverify_go (pub m : ByteArray) (j : Nat) (A1 A2 : Option Addr) (c1 c2 : Nat) (S P : List (List UInt8)) (w : World) (hm : m.size ≤ 1000) (h1 : VArg w A1 S) (h2 : VArg w A2 P) (ht : Tab w) (k1 : S.length = 18) (k2 : P.length ≤ 8) (k3 : j < 2 ^ P.length) :
    Calls Tryd.prog 19 #[.string pub, .string m, .agg #[.int .i64 (j : Int), .slice A1 18 c1, .slice A2 P.length c2]] w fun e w' => e = .returned (.bool (verB pub.data.toList m.data.toList (j : Int) S P)) ∧ Below w.heap.size w w' := by
  obtain ⟨B, hB⟩ : ∃ B, w.heap.size = B := ⟨_, rfl⟩
  have HW : Hid (w.heap.size = B) := Lib.hid hB
  have S1 := Lib.hid h1.size; have S2 := Lib.hid h2.size
  have VF : Hid (∀ k, k < 18 → Dg.isD (S.getD k []) = false → verB pub.data.toList m.data.toList (j : Int) S P = false) := Lib.hid (fun k hk hd => ver_false (by
    have : oddL S = true := odd_yes (k := k) (by omega) (by rw [List.getD_eq_getElem?_getD, List.getElem?_eq_getElem (by omega)] at hd; exact hd)
    unfold preB; simp [this]))
  have VP : Hid (∀ k, k < P.length → Dg.isD (P.getD k []) = false → verB pub.data.toList m.data.toList (j : Int) S P = false) := Lib.hid (fun k hk hd => ver_false (by
    have : oddL P = true := odd_yes (k := k) hk (by rw [List.getD_eq_getElem?_getD, List.getElem?_eq_getElem hk] at hd; exact hd)
    unfold preB; simp [this]))
  have VT : Hid ((∀ k, k < 18 → Dg.isD (S.getD k []) = true) → (∀ k, k < P.length → Dg.isD (P.getD k []) = true) → verB pub.data.toList m.data.toList (j : Int) S P = decide (Sl.verF m.data.toList j S P = pub.data.toList)) := Lib.hid (fun q1 q2 => by
    have o1 : oddL S = false := odd_no fun k hk => by have := q1 k (by omega); rwa [List.getD_eq_getElem?_getD, List.getElem?_eq_getElem hk] at this
    have o2 : oddL P = false := odd_no fun k hk => by have := q2 k hk; rwa [List.getD_eq_getElem?_getD, List.getElem?_eq_getElem hk] at this
    unfold verB preB
    rw [o1, o2, Int.toNat_natCast, show decide ((j : Int) < ((2 ^ P.length : Nat) : Int)) = true from decide_eq_true (Int.ofNat_lt.2 k3)]
    simp [k1, k2])
  generalize verB pub.data.toList m.data.toList (j : Int) S P = VB at *
  obtain ⟨n2, hn2⟩ : ∃ n, P.length = n := ⟨_, rfl⟩
  have N1 := Lib.hid k1; have N2 := Lib.hid hn2
  rw [hn2] at k2 k3 VP VT ⊢
  obtain ⟨W0, hW0⟩ : ∃ W0, W0 = w.alloc (.cells #[.int .i64 (j : Int), .slice A1 18 c1, .slice A2 n2 c2] 24) := ⟨_, rfl⟩
  have Q := Lib.hid (sealIn_mk (idx := (j : Int)) (A1 := A1) (A2 := A2) (n1 := 18) (c1 := c1) (n2 := n2) (c2 := c2) hB hW0 ht h1.rd h2.rd)
  have DA := Lib.hid (fun u => rdigs_any m u (by omega))
  have PA := Lib.hid (fun u => rpower_any (n2 : Int) n2 u rfl (by omega))
  have j256 : j < 256 := Nat.lt_of_lt_of_le k3 (pow_le8 k2)
  have n28 : n2 ≤ 8 := k2
  generalize 2 ^ n2 = q at *
  have e2 : decide ((8 : Int) < (n2 : Int)) = false := by simp; omega
  have e5 : decide ((j : Int) < 0) = false := by simp
  have e6 : decide ((q : Int) ≤ (j : Int)) = false := by simp; omega
  have e7 : decide (q ≤ j) = false := by simp; omega
  obtain ⟨x0, x1, x2⟩ := cells3 (Q.out.blk _ (Below.refl _ _))
  clear hn2 h1 h2 ht k1 k2 k3
  go_enter Tryd.func19, Tryd.ntmps19
  go_wp2_with fail
  rw [← hW0]
  clear hW0 hB
  go_quiet ((go_at_call 33; exact qs0 (PA.out _)))
  go_wp2_with fail
  clear e2 e5 e6 e7 x0 x1 x2
  refine (DA.out _).mono ?_
  rintro e W1 ⟨Ad, cd, rfl, rd, hb1'⟩
  have hb1 : Below W0.heap.size W0 W1 := (below_drewN (Below.refl _ _) _).trans hb1'
  have B1' := Lib.hid (Q.out.next _ _ (Below.refl _ _) hb1)
  obtain ⟨B1, hB1⟩ : ∃ B1, W1.heap.size = B1 := ⟨_, rfl⟩
  have hBB : B + 1 ≤ B1 := by rw [← hB1]; exact Q.out.sz _ B1'.out
  have KD : Hid (∀ u, Below B1 W1 u → Rd u Ad (dv (Sl.digs m.data.toList))) := Lib.hid (fun u hu => rd.below (hB1 ▸ hu))
  have KQ : Hid (∀ u, Below B1 W1 u → Below (B + 1) W0 u) := Lib.hid (fun u hu => B1'.out.trans (hu.mono hBB))
  have KZ : Hid (∀ u, Below B1 W1 u → B1 ≤ u.heap.size) := Lib.hid (fun u hu => by have := hu.size; rw [hB1] at this; exact this)
  clear rd hb1 hb1' hB1 DA B1'
  go_wp2_with fail
  go_loopw [8, 9] (fun e k' wr => ∃ (k : Nat) (ve : Value), k ≤ 18 ∧ k' = .int .i64 k ∧ ve = e ∧ Hid (Own wr B1 ve ((Sl.vends m.data.toList S).take k)) ∧ Hid (Below B1 W1 wr) ∧ Hid (∀ i, i < k → Dg.isD (S.getD i []) = true)) (fun _ k' _ => 18 - (intOf k').toNat)
  case atStart => exact ⟨0, _, by omega, rfl, rfl, Lib.hid (Own.nil_ _ _), Lib.hid (Below.refl _ _), Lib.hid (fun i hi => by omega)⟩
  case round =>
    obtain ⟨k, ve, hk, rfl, rfl, hown, hbl, hall⟩ := hrel
    have hsz := KZ.out _ hbl.out
    obtain ⟨ne, hne, oe⟩ := hown.out
    obtain ⟨Ae, ce, rfl, -, -⟩ := own_form oe
    have le : ne ≤ 18 := by rw [hne, List.length_take]; omega
    have HNE := Lib.hid hne
    clear oe hne
    by_cases hk18 : k < 18
    · have d1 : (k : Int) < 18 := by omega
      obtain ⟨x0, x1, x2⟩ := cells3 (Q.out.blk _ (KQ.out _ hbl.out))
      have ES : Hid ((Sl.vends m.data.toList S).take (k + 1) = (Sl.vends m.data.toList S).take k ++ [Sl.chainF (15 - (Sl.digs m.data.toList).getD k 0) (S.getD k [])]) := Lib.hid (vends_step hk18)
      have CY : Hid (∀ u, Below B1 W1 u → ∃ b off, A1 = some ⟨b, off, none⟩ ∧ u.cell? ⟨b, off + k, none⟩ = some (.string (mkB (S.getD k [])))) := Lib.hid (fun u hu => by
        obtain ⟨b, off, e, hb, hcell⟩ := (Q.out.r1 _ (KQ.out _ hu)) (by rw [sv_len, N1.out]; decide)
        exact ⟨b, off, e, hcell k _ (getD_at (by rw [N1.out]; exact hk18))⟩)
      have CD : Hid (∀ u, Below B1 W1 u → ∃ bd fd, Ad = some ⟨bd, fd, none⟩ ∧ u.cell? ⟨bd, fd + k, none⟩ = some (.int .i64 (((Sl.digs m.data.toList).getD k 0 : Nat) : Int))) := Lib.hid (fun u hu => by
        obtain ⟨bd, fd, e, hbd, hcd⟩ := (KD.out _ hu) (by rw [dv_len]; decide)
        exact ⟨bd, fd, e, hcd k _ (dv_at hk18)⟩)
      have VFk := Lib.hid (VF.out k hk18)
      have ALL : Hid (Dg.isD (S.getD k []) = true → ∀ i, i < k + 1 → Dg.isD (S.getD i []) = true) := Lib.hid (fun hd i hi => by
        rcases Nat.lt_succ_iff_lt_or_eq.1 hi with h1 | rfl
        · exact hall.out i h1
        · exact hd)
      have ly := getD_300 S1.out k
      have ld := Sl.digs_le m.data.toList k
      generalize S.getD k [] = y at *
      generalize (Sl.digs m.data.toList).getD k 0 = dk at *
      have IA := Lib.hid (fun u => ris_any (mkB y) u (by rw [mkB_size]; omega))
      rw [mkB_list] at IA
      obtain ⟨b, off, rfl, hc⟩ := CY.out _ hbl.out
      obtain ⟨e, he⟩ : ∃ e, 15 - dk = e := ⟨_, rfl⟩
      rw [he] at ES
      have wv : IntKind.i64.wrap (15 - (dk : Int)) = (e : Int) := by rw [IntWalk.i64_in _ (by omega)]; omega
      have RC := Lib.hid (fun u => rchain_any (mkB y) e (e : Int) u rfl (by omega) (by rw [mkB_size]; omega))
      rw [mkB_list] at RC
      clear he hall
      generalize Sl.chainF e y = z at *
      obtain ⟨dq, hdq⟩ : ∃ v, Dg.isD y = v := ⟨_, rfl⟩
      rw [hdq] at IA ALL VFk
      clear hdq
      go_wp2_with fail
      refine (IA.out _).mono ?_
      rintro e' w2 ⟨rfl, rfl⟩
      cases dq with
      | false =>
        go_wp2_with fail
        go_ret
        exact ⟨by rw [VFk.out (by trivial)]; rfl, Q.out.bel _ (KQ.out _ hbl.out)⟩
      | true =>
        obtain ⟨bd, fd, rfl, hd⟩ := CD.out _ hbl.out
        have C1 : ∀ w', Below B1 W1 w' → w'.cell? ⟨B, 1, none⟩ = some (.slice (some ⟨b, off, none⟩) 18 c1) := fun w' h => (cells3 (Q.out.blk _ (KQ.out _ h))).2.1
        have C2 : ∀ w', Below B1 W1 w' → w'.cell? ⟨b, off + k, none⟩ = some (.string (mkB y)) := fun w' h => by
          obtain ⟨b', f', e', h'⟩ := CY.out w' h
          cases e'; exact h'
        have C3 : ∀ w', Below B1 W1 w' → w'.cell? ⟨bd, fd + k, none⟩ = some (.int .i64 (dk : Int)) := fun w' h => by
          obtain ⟨b', f', e', h'⟩ := CD.out w' h
          cases e'; exact h'
        clear hc hd x0 x1 x2
        go_wp2_with fail
        (refine wp_region_noPanic ?_; refine wp_region_held_drew (S := (fun w' => Below B1 W1 w')) (by kernel_rfl) ?_ (fun hHeld => ?_); exact (hbl.out.drew))
        (refine wpAnyH_take (i := 0) (oi := _) (v := ?_) rfl (by kernel_rfl) (by kernel_rfl) (by kernel_rfl) (fun _ _ _ h => h) (Or.inl ⟨?_, ?_⟩) (by assumption) ?_; rotate_left; (focus (first | rfl | (simp [Region.wanted, yielded]; done))); (focus (intro w hSw; (try dsimp only at hSw); go_simp; all_goals (with_reducible rfl))); try simp only [Act.put, List.getElem_toArray, List.getElem_cons_zero, List.getElem_cons_succ, List.setIfInBounds_toArray, List.set_cons_zero, List.set_cons_succ])
        (refine wpAnyH_take (i := 1) (oi := _) (v := ?_) rfl (by kernel_rfl) (by kernel_rfl) (by kernel_rfl) (fun _ _ _ h => h) (Or.inl ⟨?_, ?_⟩) (by assumption) ?_; rotate_left; (focus (first | rfl | (simp [Region.wanted, yielded]; done))); (focus (intro w hSw; (try dsimp only at hSw); go_simp; all_goals (with_reducible rfl))); try simp only [Act.put, List.getElem_toArray, List.getElem_cons_zero, List.getElem_cons_succ, List.setIfInBounds_toArray, List.set_cons_zero, List.set_cons_succ])
        (refine wpAnyH_take (i := 2) (oi := _) (v := ?_) rfl (by kernel_rfl) (by kernel_rfl) (by kernel_rfl) (fun _ _ _ h => h) (Or.inl ⟨?_, ?_⟩) (by assumption) ?_; rotate_left; (focus (first | rfl | (simp [Region.wanted, yielded]; done))); (focus (intro w hSw; (try dsimp only at hSw); go_simp; all_goals (with_reducible rfl))); try simp only [Act.put, List.getElem_toArray, List.getElem_cons_zero, List.getElem_cons_succ, List.setIfInBounds_toArray, List.set_cons_zero, List.set_cons_succ])
        (refine wpAnyH_take (i := 3) (oi := _) (v := ?_) rfl (by kernel_rfl) (by kernel_rfl) (by kernel_rfl) (fun _ _ _ h => h) (Or.inl ⟨?_, ?_⟩) (by assumption) ?_; rotate_left; (focus (first | rfl | (simp [Region.wanted, yielded]; done))); (focus (intro w hSw; (try dsimp only at hSw); go_simp; all_goals (with_reducible rfl))); try simp only [Act.put, List.getElem_toArray, List.getElem_cons_zero, List.getElem_cons_succ, List.setIfInBounds_toArray, List.set_cons_zero, List.set_cons_succ])
        (refine wpAnyH_take (i := 4) (oi := _) (v := ?_) rfl (by kernel_rfl) (by kernel_rfl) (by kernel_rfl) (fun _ _ _ h => h) (Or.inl ⟨?_, ?_⟩) (by assumption) ?_; rotate_left; (focus (first | rfl | (simp [Region.wanted, yielded]; done))); (focus (intro w hSw; (try dsimp only at hSw); go_simp; all_goals (with_reducible rfl))); try simp only [Act.put, List.getElem_toArray, List.getElem_cons_zero, List.getElem_cons_succ, List.setIfInBounds_toArray, List.set_cons_zero, List.set_cons_succ])
        (refine wpAnyH_take (i := 5) (oi := _) (v := ?_) rfl (by kernel_rfl) (by kernel_rfl) (by kernel_rfl) (fun _ _ _ h => h) (Or.inl ⟨?_, ?_⟩) (by assumption) ?_; rotate_left; (focus (first | rfl | (simp [Region.wanted, yielded]; done))); (focus (intro w hSw; (try dsimp only at hSw); go_simp; all_goals (with_reducible rfl))); try simp only [Act.put, List.getElem_toArray, List.getElem_cons_zero, List.getElem_cons_succ, List.setIfInBounds_toArray, List.set_cons_zero, List.set_cons_succ])
        (refine wpAnyH_take (i := 6) (oi := _) (v := ?_) rfl (by kernel_rfl) (by kernel_rfl) (by kernel_rfl) (fun _ _ _ h => h) (Or.inl ⟨?_, ?_⟩) (by assumption) ?_; rotate_left; (focus (first | rfl | (simp [Region.wanted, yielded]; done))); (focus (intro w hSw; (try dsimp only at hSw); go_simp; all_goals (with_reducible rfl))); try simp only [Act.put, List.getElem_toArray, List.getElem_cons_zero, List.getElem_cons_succ, List.setIfInBounds_toArray, List.set_cons_zero, List.set_cons_succ])
        (refine wpAnyH_take (i := 7) (oi := _) (v := ?_) rfl (by kernel_rfl) (by kernel_rfl) (by kernel_rfl) (fun _ _ _ h => h) (Or.inl ⟨?_, ?_⟩) (by assumption) ?_; rotate_left; (focus (first | rfl | (simp [Region.wanted, yielded]; done))); (focus (intro w hSw; (try dsimp only at hSw); go_simp; all_goals (with_reducible rfl))); try simp only [Act.put, List.getElem_toArray, List.getElem_cons_zero, List.getElem_cons_succ, List.setIfInBounds_toArray, List.set_cons_zero, List.set_cons_succ])
        (refine wpAnyH_take (i := 8) (oi := _) (v := ?_) rfl (by kernel_rfl) (by kernel_rfl) (by kernel_rfl) (fun _ _ _ h => h) (Or.inl ⟨?_, ?_⟩) (by assumption) ?_; rotate_left; (focus (first | rfl | (simp [Region.wanted, yielded]; done))); (focus (intro w hSw; (try dsimp only at hSw); go_simp; all_goals (with_reducible rfl))); try simp only [Act.put, List.getElem_toArray, List.getElem_cons_zero, List.getElem_cons_succ, List.setIfInBounds_toArray, List.set_cons_zero, List.set_cons_succ])
        (refine wpAnyH_take (i := 9) (oi := _) (v := ?_) rfl (by kernel_rfl) (by kernel_rfl) (by kernel_rfl) (fun _ _ _ h => h) (Or.inl ⟨?_, ?_⟩) (by assumption) ?_; rotate_left; (focus (first | rfl | (simp [Region.wanted, yielded]; done))); (focus (intro w hSw; (try dsimp only at hSw); go_simp; all_goals (with_reducible rfl))); try simp only [Act.put, List.getElem_toArray, List.getElem_cons_zero, List.getElem_cons_succ, List.setIfInBounds_toArray, List.set_cons_zero, List.set_cons_succ])
        (refine wpAnyH_take (i := 10) (oi := _) (v := ?_) rfl (by kernel_rfl) (by kernel_rfl) (by kernel_rfl) (fun _ _ _ h => h) (Or.inl ⟨?_, ?_⟩) (by assumption) ?_; rotate_left; (focus (first | rfl | (simp [Region.wanted, yielded]; done))); (focus (intro w hSw; (try dsimp only at hSw); go_simp; all_goals (with_reducible rfl))); try simp only [Act.put, List.getElem_toArray, List.getElem_cons_zero, List.getElem_cons_succ, List.setIfInBounds_toArray, List.set_cons_zero, List.set_cons_succ])
        (refine wpAnyH_ready (rs := [11]) (by kernel_rfl) (by simp) ?_; refine AllReadyH.cons (o := _) rfl (fun K hK => ?_) AllReadyH.nil; go_simp)
        refine (RC.out _).mono ?_
        rintro e' w4 ⟨rfl, rfl⟩
        (refine hK.out _ _ hHeld (fun hHeld2 => ?_); clear hK K hHeld; have hHeld := hHeld2; clear hHeld2; try simp only [Act.put, List.getElem_toArray, List.getElem_cons_zero, List.getElem_cons_succ, List.setIfInBounds_toArray, List.set_cons_zero, List.set_cons_succ])
        (refine wpAnyH_ready (rs := [12]) (by kernel_rfl) (by simp) ?_; refine AllReadyH.cons (o := _) rfl (fun K hK => ?_) AllReadyH.nil; go_simp)
        (refine hK.out _ _ (Below.alloc hHeld hsz _) (fun hHeld2 => ?_); clear hK K hHeld; have hHeld := hHeld2; clear hHeld2; try simp only [Act.put, List.getElem_toArray, List.getElem_cons_zero, List.getElem_cons_succ, List.setIfInBounds_toArray, List.set_cons_zero, List.set_cons_succ])
        (refine wpAnyH_ready (rs := [13]) (by kernel_rfl) (by simp) ?_; refine AllReadyH.cons (o := _) rfl (fun K hK => ?_) AllReadyH.nil)
        refine step_app1L rfl (.tmp 51) (.tmp 63) 22 rfl Tryd.underlying22 info_str rfl B1 (.slice Ae ne ce) ne _ wr.drew (.string (mkB z)) rfl rfl rfl rfl ((hown.out.below ((Below.refl _ wr).drew)).below ((Below.refl _ _).alloc (Nat.le_refl _) _)).row hsz (by omega) (by omega) ?_
        intro g6 c6 w6 hown6 hg6 hl6 hb6
        have B6 := Lib.hid ((hbl.out.drew).trans hb6)
        (refine hK.out _ _ B6.out (fun hHeld2 => ?_); clear hK K hHeld; have hHeld := hHeld2; clear hHeld2; try simp only [Act.put, List.getElem_toArray, List.getElem_cons_zero, List.getElem_cons_succ, List.setIfInBounds_toArray, List.set_cons_zero, List.set_cons_succ])
        (refine wpAnyH_take (i := 14) (oi := _) (v := ?_) rfl (by kernel_rfl) (by kernel_rfl) (by kernel_rfl) (fun _ _ _ h => h) (Or.inl ⟨?_, ?_⟩) (by assumption) ?_; rotate_left; (focus (first | rfl | (simp [Region.wanted, yielded]; done))); (focus (intro w hSw; (try dsimp only at hSw); go_simp; all_goals (with_reducible rfl))); try simp only [Act.put, List.getElem_toArray, List.getElem_cons_zero, List.getElem_cons_succ, List.setIfInBounds_toArray, List.set_cons_zero, List.set_cons_succ])
        (refine wpAnyH_done (by kernel_rfl) ?_ _; refine NoPanic.normal ?_)
        clear hHeld C1 C2 C3
        have O6 : Hid (Own w6 B1 (.slice (some ⟨g6, 0, none⟩) (ne + 1) c6) ((Sl.vends m.data.toList S).take (k + 1))) := Lib.hid ⟨ne + 1, by (rw [ES.out, List.length_append, ← HNE.out]) <;> rfl, by rw [ES.out, sv_app, sv_one]; exact hown6⟩
        clear hown6 hg6 hl6 hb6 hown hbl
        go_wp2_with fail
        exact ⟨⟨k + 1, _, by omega, by go_num, rfl, O6, B6, Lib.hid (ALL.out (by trivial))⟩, by simp [intOf]; omega⟩
    · have hk2 : k = 18 := by omega
      subst hk2
      have d1 : ¬ ((18 : Nat) : Int) < 18 := by decide
      have EE : (Sl.vends m.data.toList S).take 18 = Sl.vends m.data.toList S := List.take_of_length_le (by rw [Sl.vends_len]; exact Nat.le_refl _)
      have HE := HNE.out
      rw [EE, Sl.vends_len] at HE
      subst HE
      rw [EE] at hown
      have vs := vends_300 (m := m.data.toList) S1.out
      have LA : Hid (∀ u, Rd u Ae (sv (Sl.vends m.data.toList S)) → Calls Tryd.prog 44 #[.slice Ae 18 ce] u fun e w' => e = .returned (.string (mkB (Dg.sumL (Sl.vkT m.data.toList S)))) ∧ Below u.heap.size u w') := Lib.hid (fun u hr => rlistT_any Ae 18 ce _ u (Sl.vends_len _ _).symm (by rw [Sl.vends_len]; decide) vs hr)
      have VC : Hid (Sl.verF m.data.toList j S P = Sl.climb (P.drop 0) j (Dg.sumL (Sl.vkT m.data.toList S))) := Lib.hid rfl
      have ld : (Dg.sumL (Sl.vkT m.data.toList S)).length ≤ 300 := by rw [isD_len (Dg.sumL_isD _)]; decide
      have RE := Lib.hid hown.out.rd
      have SD := Lib.hid hall.out
      clear EE HNE vs hall hown
      generalize Sl.verF m.data.toList j S P = VR at *
      generalize Dg.sumL (Sl.vkT m.data.toList S) = a0 at *
      generalize Sl.vends m.data.toList S = EN at *
      obtain ⟨wo, hwo⟩ : ∃ wo, wo = wr := ⟨_, rfl⟩
      rw [← hwo] at RE hbl hsz ⊢
      clear hwo
      go_wp2_with fail
      clear d1
      go_loopw [10] (fun k' wr => ∃ k : Nat, k ≤ n2 ∧ k' = .int .i64 k ∧ wo = wr ∧ Hid (∀ i, i < k → Dg.isD (P.getD i []) = true)) (fun k' _ => n2 - (intOf k').toNat)
      case atStart => exact ⟨0, by omega, rfl, rfl, Lib.hid (fun i hi => by omega)⟩
      case round =>
        obtain ⟨k, hk, rfl, rfl, hall⟩ := hrel
        obtain ⟨x0, x1, x2⟩ := cells3 (Q.out.blk _ (KQ.out _ hbl.out))
        by_cases hkl : k < n2
        · have d1 : (k : Int) < (n2 : Int) := by omega
          have hkP : k < P.length := by rw [N2.out]; exact hkl
          obtain ⟨b, off, rfl, hb, hcell⟩ := (Q.out.r2 _ (KQ.out _ hbl.out)) (by rw [sv_len]; omega)
          have hc := hcell k _ (getD_at hkP)
          have ly := getD_300 S2.out k
          have VPk := Lib.hid (VP.out k hkl)
          have ALL : Hid (Dg.isD (P.getD k []) = true → ∀ i, i < k + 1 → Dg.isD (P.getD i []) = true) := Lib.hid (fun hd i hi => by
            rcases Nat.lt_succ_iff_lt_or_eq.1 hi with h1 | rfl
            · exact hall.out i h1
            · exact hd)
          clear hcell hkP hall
          generalize P.getD k [] = y at *
          have IA := Lib.hid (fun u => ris_any (mkB y) u (by rw [mkB_size]; omega))
          rw [mkB_list] at IA
          obtain ⟨dq, hdq⟩ : ∃ v, Dg.isD y = v := ⟨_, rfl⟩
          rw [hdq] at IA ALL VPk
          clear hdq
          go_wp2_with fail
          refine (IA.out _).mono ?_
          rintro e' w2 ⟨rfl, rfl⟩
          cases dq with
          | false =>
            go_wp2_with fail
            go_ret
            exact ⟨by rw [VPk.out (by trivial)]; rfl, Q.out.bel _ (KQ.out _ hbl.out)⟩
          | true =>
            go_wp2_with fail
            exact ⟨⟨k + 1, by omega, by go_num, by trivial, Lib.hid (ALL.out (by trivial))⟩, by simp [intOf]; omega⟩
        · have hkn : k = n2 := by omega
          subst hkn
          have d1 : ¬ (k : Int) < (k : Int) := by omega
          have VV : Hid (VB = decide (VR = pub.data.toList)) := Lib.hid (VT.out SD.out hall.out)
          clear hall
          go_wp2_with fail
          refine (LA.out _ RE.out).mono ?_
          rintro e' w2 ⟨rfl, hb2⟩
          have B2 := Lib.hid (hbl.out.trans (hb2.mono hsz))
          clear hb2 x0 x1 x2
          obtain ⟨x0, x1, x2⟩ := cells3 (Q.out.blk _ (KQ.out _ B2.out))
          go_wp2_with fail
          clear x0 x1 x2 d1 RE
          go_loopw [11, 12, 13] (fun a' i' k' wr => ∃ (q ii : Nat) (a : List UInt8), q ≤ k ∧ k' = .int .i64 q ∧ i' = .int .i64 ii ∧ a' = .string (mkB a) ∧ ii ≤ 1000000 ∧ a.length ≤ 300 ∧ Hid (VR = Sl.climb (P.drop q) ii a) ∧ Hid (Below B1 W1 wr)) (fun _ _ k' _ => k - (intOf k').toNat)
          case atStart => exact ⟨0, j, a0, by omega, rfl, rfl, rfl, by omega, ld, VC, B2⟩
          case round =>
            clear B2 VC
            obtain ⟨q', ii, a, hq', rfl, rfl, rfl, hii, la, hVR, hbl2⟩ := hrel
            have hsz2 := KZ.out _ hbl2.out
            obtain ⟨x0, x1, x2⟩ := cells3 (Q.out.blk _ (KQ.out _ hbl2.out))
            by_cases hkl : q' < k
            · have d1 : (q' : Int) < (k : Int) := by omega
              have hkP : q' < P.length := by rw [N2.out]; exact hkl
              obtain ⟨b, off, rfl, hb, hcell⟩ := (Q.out.r2 _ (KQ.out _ hbl2.out)) (by rw [sv_len]; omega)
              have hc := hcell q' _ (getD_at hkP)
              have ly := getD_300 S2.out q'
              have NV : Hid (VR = Sl.climb (P.drop (q' + 1)) (ii / 2) (Dg.sumL (pairB a (P.getD q' []) (decide (ii % 2 = 1))))) := Lib.hid (by rw [hVR.out, drop_cons' hkP, Sl.climb, pair_back])
              clear hcell hkP hVR
              generalize P.getD q' [] = y at *
              have JV : Hid (Value.int .i64 ((ii : Int) / 2) = .int .i64 ((ii / 2 : Nat) : Int)) := Lib.hid (by rw [show ((ii / 2 : Nat) : Int) = (ii : Int) / 2 by omega])
              have m0 : ((ii : Int) % 2 == 1) = decide (ii % 2 = 1) := by
                by_cases h1 : ii % 2 = 1
                · rw [decide_eq_true h1, show (ii : Int) % 2 = 1 by omega]; rfl
                · rw [decide_eq_false h1, show (ii : Int) % 2 = 0 by omega]; rfl
              have NC := Lib.hid (fun u back => rparent_any (mkB a) (mkB y) back u (by rw [mkB_size]; exact la) (by rw [mkB_size]; exact ly))
              rw [mkB_list, mkB_list] at NC
              obtain ⟨bk, hbk⟩ : ∃ v, decide (ii % 2 = 1) = v := ⟨_, rfl⟩
              rw [hbk] at m0 NV
              clear hbk
              have lp : (Dg.sumL (pairB a y bk)).length ≤ 300 := by rw [isD_len (Dg.sumL_isD _)]; decide
              have NB := Lib.hid (fun u => NC.out u bk)
              generalize Dg.sumL (pairB a y bk) = d at *
              go_wp2_with fail
              refine (NB.out _).mono ?_
              rintro e' w3 ⟨rfl, hb3⟩
              have B3 := Lib.hid (hbl2.out.trans (hb3.mono hsz2))
              clear hb3 m0
              go_wp2_with fail
              exact ⟨⟨q' + 1, ii / 2, d, by omega, by go_num, JV.out, rfl, by omega, lp, NV, B3⟩, by simp [intOf]; omega⟩
            · have hqn : q' = k := by omega
              subst hqn
              have d1 : ¬ (q' : Int) < (q' : Int) := by omega
              have FE : Hid (VB = ((mkB a).toList == pub.toList)) := Lib.hid (by
                rw [VV.out, cmp_pub, hVR.out, List.drop_of_length_le (by rw [N2.out]; exact Nat.le_refl _)]; rfl)
              clear hVR
              go_wp2_with fail
              go_ret
              exact ⟨by rw [FE.out]; rfl, Q.out.bel _ (KQ.out _ hbl2.out)⟩
theorem rverify_any (pub m : ByteArray) (idx : Int) (A1 A2 : Option Addr) (c1 c2 : Nat) (S P : List (List UInt8)) (w : World) (hm : m.size ≤ 1000) (h1 : VArg w A1 S) (h2 : VArg w A2 P) (ht : Tab w) :
    Calls Tryd.prog 19 #[.string pub, .string m, .agg #[.int .i64 idx, .slice A1 S.length c1, .slice A2 P.length c2]] w fun e w' => e = .returned (.bool (verB pub.data.toList m.data.toList idx S P)) ∧ Below w.heap.size w w' := by
  by_cases hno : NoF idx S.length P.length
  · rw [ver_false (by
      unfold preB
      rcases hno with k | ⟨k, k'⟩ | ⟨k, k', k''⟩ | ⟨k, k', k'', k4⟩
      · simp [k]
      · rw [show decide (P.length ≤ 8) = false from decide_eq_false (by omega)]; simp
      · rw [show decide (0 ≤ idx) = false from decide_eq_false (by omega)]; simp
      · rw [show decide (idx < ((2 ^ P.length : Nat) : Int)) = false from decide_eq_false (by omega)]; simp)]
    exact rverify_no pub m idx A1 A2 c1 c2 _ _ w h1.len h2.len hno
  · have k1 : S.length = 18 := by
      apply Classical.byContradiction; intro h; exact hno (.inl h)
    have k2 : P.length ≤ 8 := by
      apply Classical.byContradiction; intro h; exact hno (.inr (.inl ⟨k1, by omega⟩))
    have k3 : 0 ≤ idx := by
      apply Classical.byContradiction; intro h; exact hno (.inr (.inr (.inl ⟨k1, k2, by omega⟩)))
    have k4 : idx < ((2 ^ P.length : Nat) : Int) := by
      apply Classical.byContradiction; intro h; exact hno (.inr (.inr (.inr ⟨k1, k2, k3, by omega⟩)))
    obtain ⟨j, rfl⟩ : ∃ j : Nat, idx = j := ⟨idx.toNat, by omega⟩
    rw [k1]
    exact rverify_go pub m j A1 A2 c1 c2 S P w hm h1 h2 ht k1 k2 (by omega)
end Go.Proofs.YthceonkdmcidcaaDoor
