/- WALK: the reference's Sign (printed by gen_ui.py). -/
import Derived.Test.YthceonkdmcidcaaDoorUH
import Derived.Deep.DeepCutAuto
set_option linter.unusedSimpArgs false
set_option linter.unusedVariables false
namespace Go.Proofs.YthceonkdmcidcaaDoor
open Go.RowKit

/-- behind k chains: the block of the result that is made, its own list -/
structure SgR (B : Nat) (w W1 wr : World) (B1 o i : Nat) (s m : List UInt8) (k : Nat) (v : Value) : Prop where
  own : Own wr B1 v ((Sl.sigF s i m).take k)
  blk : wr.heap[o]? = some (.cells #[.int .i64 (i : Int), v, .slice none 0 0] 24 (0, 0))
  kx : Kx B1 o W1 wr
  bel : Below B w wr
theorem sigF_step {s m : List UInt8} {i k : Nat} (hk : k < 18) : (Sl.sigF s i m).take (k + 1) = (Sl.sigF s i m).take k ++ [Sl.chainF ((Sl.digs m).getD k 0) (Sl.start s i k)] := by
  rw [List.take_succ_eq_append_getElem (by simp [Sl.sigF]; exact hk)]
  refine congrArg (fun z => (Sl.sigF s i m).take k ++ [z]) ?_
  simp only [Sl.sigF, List.getElem_map, List.getElem_range]
theorem sigF_len (s m : List UInt8) (i : Nat) : (Sl.sigF s i m).length = 18 := by simp [Sl.sigF]
set_option maxRecDepth 100000 in
set_option maxHeartbeats 8000000 in
theorem rsign_any (s m : ByteArray) (h i : Nat) (w : World) (hs : s.size ≤ 300) (hm : m.size ≤ 1000000) (hh : h ≤ 8) (hi : i < 2 ^ h) :
    Calls Tryd.prog 16 #[.string s, .int .i64 h, .int .i64 i, .string m] w (SignPost w i (Sl.sigF s.data.toList i m.data.toList) (Sl.pathS s.data.toList h i)) := by
  have PA := Lib.hid (fun u => rpower_any (h : Int) h u rfl (by omega))
  have KA := Lib.hid (fun u => rkeys_any s h (h : Int) u rfl hs hh)
  have TA : Hid (∀ u A c, Rd u A (sv (Sl.keysF s.data.toList h)) → Calls Tryd.prog 37 #[.slice A (Sl.keysF s.data.toList h).length c, .int .i64 i] u (OwnP u (Sl.pathS s.data.toList h i))) := Lib.hid (fun u A c hr => rpath_any A _ c h i _ u rfl hh (Sl.keysF_len _ _) hi keys_size hr)
  have pl : Hid ((Sl.pathS s.data.toList h i).length = h) := Lib.hid (Sl.path_len _ _ _)
  have P8 := pow_le8 hh
  have HI := Lib.hid hi
  generalize 2 ^ h = n at *
  have i256 : i < 256 := by omega
  have e0 : decide ((h : Int) < 0) = false := by simp
  have e1 : decide ((8 : Int) < (h : Int)) = false := by simp; omega
  have e2 : decide ((i : Int) < 0) = false := by simp
  have e3 : decide ((n : Int) ≤ (i : Int)) = false := by simp; omega
  have e3' : decide (n ≤ i) = false := by simp; omega
  generalize Sl.keysF s.data.toList h = KY at *
  generalize Sl.pathS s.data.toList h i = PT at *
  obtain ⟨B, hB⟩ : ∃ B, w.heap.size = B := ⟨_, rfl⟩
  have HW : Hid (w.heap.size = B) := Lib.hid hB
  obtain ⟨W0, hW0⟩ : ∃ W, W = (w.alloc (.cells #[.int .i64 0, .slice none 0 0, .slice none 0 0] 24)).alloc (.cells #[.int .i64 (i : Int), .slice none 0 0, .slice none 0 0] 24) := ⟨_, rfl⟩
  have z0 : W0.heap.size = B + 2 := by rw [hW0, ← hB]; simp
  have Z0 : Hid (W0.heap[B]? = some (.cells #[.int .i64 0, .slice none 0 0, .slice none 0 0] 24 (0, 0))) := Lib.hid (by rw [hW0, ← hB]; exact (alloc_old _ _ (by simp)).trans (heap_alloc_new w _))
  obtain ⟨o, ho⟩ : ∃ o, B + 1 = o := ⟨_, rfl⟩
  have E0' : Hid (W0.heap[o]? = some (.cells #[.int .i64 (i : Int), .slice none 0 0, .slice none 0 0] 24 (0, 0))) := Lib.hid (by rw [hW0, ← ho, ← hB]; exact alloc_new' _ _ _ (by simp))
  have L0' : Hid (Below B w W0) := Lib.hid (by rw [hW0, ← hB]; exact ((Below.refl _ _).alloc (Nat.le_refl _) _).alloc (by simp) _)
  have DA := Lib.hid (rdigs_any m W0 hm)
  have hBo : B ≤ o := by omega
  have HBO := Lib.hid ho
  clear hi
  go_enter Tryd.func16, Tryd.ntmps16
  go_wp2_with fail
  refine (PA.out _).mono ?_
  rintro e wp ⟨rfl, rfl⟩
  go_wp2_with fail
  rw [← hW0]
  clear ho hW0 hB e0 e1 e2 e3 e3'
  refine DA.out.mono ?_
  rintro e W1 ⟨Ad, cd, rfl, rd, hb1⟩
  obtain ⟨B1, hB1⟩ : ∃ B1, W1.heap.size = B1 := ⟨_, rfl⟩
  have hoB1 : o < B1 := by have := hb1.size; have := HBO.out; omega
  have hBB1 : B ≤ B1 := by omega
  have KD : Hid (∀ u, Kx B1 o W1 u → ∀ k, k < 18 → ∃ bd fd, Ad = some ⟨bd, fd, none⟩ ∧ u.cell? ⟨bd, fd + k, none⟩ = some (.int .i64 (((Sl.digs m.data.toList).getD k 0 : Nat) : Int))) := Lib.hid (fun u hu k hk => by
    obtain ⟨bd, fd, eA, hbd, hc⟩ := rd (by rw [dv_len]; decide)
    have hck := hc k _ (dv_at hk)
    refine ⟨bd, fd, eA, (hu.cell (p := ⟨bd, fd + k, none⟩) (by show bd < B1; omega) ?_).trans hck⟩
    intro e
    have e : bd = o := e
    have h1 := (hb1.block o (lt_of_block E0'.out)).trans E0'.out
    have h17 := hc 17 _ (dv_at (by decide))
    rw [e, cell_of_row W1 o (fd + 17) _ _ _ h1] at h17
    have := (Array.getElem?_eq_some_iff.1 h17).1
    simp at this
    omega)
  have ST : Hid (SgR B w W1 W1 B1 o i s.data.toList m.data.toList 0 (.slice none 0 0)) := Lib.hid ⟨Own.nil_ _ _, (hb1.block o (lt_of_block E0'.out)).trans E0'.out, Kx.refl _ _ _, L0'.out.trans (hb1.mono (by omega))⟩
  have HB1 := Lib.hid hB1
  have KB : Hid (W1.heap[B]? = _) := Lib.hid ((hb1.block B (lt_of_block Z0.out)).trans Z0.out)
  clear rd hb1 hB1 DA E0' L0'
  go_wp2_with fail
  go_loopw [12] (fun k' wr => ∃ (k : Nat) (v : Value), k ≤ 18 ∧ k' = .int .i64 k ∧ Hid (SgR B w W1 wr B1 o i s.data.toList m.data.toList k v)) (fun k' _ => 18 - (intOf k').toNat)
  case atStart => exact ⟨0, _, by omega, rfl, ST⟩
  case round =>
    clear ST
    obtain ⟨k, v, hk, rfl, hg⟩ := hrel
    have zz : B1 ≤ wr.heap.size := by have := hg.out.kx.1; rw [HB1.out] at this; exact this
    have zzB : B ≤ wr.heap.size := Nat.le_trans hBB1 zz
    obtain ⟨no, hno, oo⟩ := hg.out.own
    obtain ⟨Ao, co, rfl, -, -⟩ := own_form oo
    have lo : no ≤ 18 := by rw [hno, List.length_take]; omega
    have HNO := Lib.hid hno
    clear oo hno
    by_cases hlt : k < 18
    · have d1 : (k : Int) < 18 := by omega
      have SS := Lib.hid (sigF_step (s := s.data.toList) (m := m.data.toList) (i := i) hlt)
      obtain ⟨bd, fd, rfl, hd⟩ := KD.out wr hg.out.kx k hlt
      have D0 : ∀ w', Kx B1 o W1 w' → w'.cell? ⟨bd, fd + k, none⟩ = some (.int .i64 (((Sl.digs m.data.toList).getD k 0 : Nat) : Int)) := fun w' h => by
        obtain ⟨b', f', e', h'⟩ := KD.out w' h k hlt
        cases e'; exact h'
      have hdl := Sl.digs_le m.data.toList k
      have SA := Lib.hid (fun u => rstart_any s i k u hs (by omega) (by omega))
      have zst : (mkB (Sl.start s.data.toList i k)).size ≤ 1000000 := by rw [mkB_size, show (Sl.start s.data.toList i k).length = 16 from isD_len (Dg.sumL_isD _)]; decide
      have CA := Lib.hid (fun u => rchain_any (mkB (Sl.start s.data.toList i k)) ((Sl.digs m.data.toList).getD k 0) (((Sl.digs m.data.toList).getD k 0 : Nat) : Int) u rfl (by omega) zst)
      rw [mkB_list] at CA
      generalize (Sl.digs m.data.toList).getD k 0 = dk at *
      generalize Sl.chainF dk (Sl.start s.data.toList i k) = y at *
      generalize Sl.start s.data.toList i k = x at *
      clear zst hd
      go_wp2_with fail
      (refine wp_region_noPanic ?_; refine wp_region_held_drew (S := (fun w' => Kx B1 o W1 w')) (by kernel_rfl) ?_ (fun hHeld => ?_); exact (Kx.drewN hg.out.kx 1))
      obtain ⟨u0, hu0⟩ : ∃ u, u = wr.drew := ⟨_, rfl⟩
      have O0 : Hid (Own u0 B1 (.slice Ao no co) ((Sl.sigF s.data.toList i m.data.toList).take k)) := Lib.hid (by rw [hu0]; exact hg.out.own.below ((Below.refl _ _).drew))
      have E0 : Hid (u0.heap[o]? = some (.cells #[.int .i64 (i : Int), .slice Ao no co, .slice none 0 0] 24 (0, 0))) := Lib.hid (by rw [hu0]; exact hg.out.blk)
      have S0 : Hid (Kx B1 o W1 u0) := Lib.hid (by rw [hu0]; exact Kx.drewN hg.out.kx 1)
      have L0 : Hid (Below B w u0) := Lib.hid (by rw [hu0]; exact hg.out.bel.drew)
      have z0 : B1 ≤ u0.heap.size := by rw [hu0]; exact zz
      have zB0 : B ≤ u0.heap.size := Nat.le_trans hBB1 z0
      rw [← hu0] at hHeld ⊢
      clear hu0 hg zz zzB
      (refine wpAnyH_take (i := 0) (oi := _) (v := ?_) rfl (by kernel_rfl) (by kernel_rfl) (by kernel_rfl) (fun _ _ _ h => h) (Or.inl ⟨?_, ?_⟩) (by assumption) ?_; rotate_left; (focus (first | rfl | (simp [Region.wanted, yielded]; done))); (focus (intro w hSw; (try dsimp only at hSw); go_simp; all_goals (with_reducible rfl))); try simp only [Act.put, List.getElem_toArray, List.getElem_cons_zero, List.getElem_cons_succ, List.setIfInBounds_toArray, List.set_cons_zero, List.set_cons_succ])
      (refine wpAnyH_take (i := 2) (oi := _) (v := ?_) rfl (by kernel_rfl) (by kernel_rfl) (by kernel_rfl) (fun _ _ _ h => h) (Or.inl ⟨?_, ?_⟩) (by assumption) ?_; rotate_left; (focus (first | rfl | (simp [Region.wanted, yielded]; done))); (focus (intro w hSw; (try dsimp only at hSw); go_simp; all_goals (with_reducible rfl))); try simp only [Act.put, List.getElem_toArray, List.getElem_cons_zero, List.getElem_cons_succ, List.setIfInBounds_toArray, List.set_cons_zero, List.set_cons_succ])
      (refine wpAnyH_take (i := 3) (oi := _) (v := ?_) rfl (by kernel_rfl) (by kernel_rfl) (by kernel_rfl) (fun _ _ _ h => h) (Or.inl ⟨?_, ?_⟩) (by assumption) ?_; rotate_left; (focus (first | rfl | (simp [Region.wanted, yielded]; done))); (focus (intro w hSw; (try dsimp only at hSw); go_simp; all_goals (with_reducible rfl))); try simp only [Act.put, List.getElem_toArray, List.getElem_cons_zero, List.getElem_cons_succ, List.setIfInBounds_toArray, List.set_cons_zero, List.set_cons_succ])
      (refine wpAnyH_take (i := 4) (oi := _) (v := ?_) rfl (by kernel_rfl) (by kernel_rfl) (by kernel_rfl) (fun _ _ _ h => h) (Or.inl ⟨?_, ?_⟩) (by assumption) ?_; rotate_left; (focus (first | rfl | (simp [Region.wanted, yielded]; done))); (focus (intro w hSw; (try dsimp only at hSw); go_simp; all_goals (with_reducible rfl))); try simp only [Act.put, List.getElem_toArray, List.getElem_cons_zero, List.getElem_cons_succ, List.setIfInBounds_toArray, List.set_cons_zero, List.set_cons_succ])
      (refine wpAnyH_take (i := 6) (oi := _) (v := ?_) rfl (by kernel_rfl) (by kernel_rfl) (by kernel_rfl) (fun _ _ _ h => h) (Or.inl ⟨?_, ?_⟩) (by assumption) ?_; rotate_left; (focus (first | rfl | (simp [Region.wanted, yielded]; done))); (focus (intro w hSw; (try dsimp only at hSw); go_simp; all_goals (with_reducible rfl))); try simp only [Act.put, List.getElem_toArray, List.getElem_cons_zero, List.getElem_cons_succ, List.setIfInBounds_toArray, List.set_cons_zero, List.set_cons_succ])
      (refine wpAnyH_take (i := 7) (oi := _) (v := ?_) rfl (by kernel_rfl) (by kernel_rfl) (by kernel_rfl) (fun _ _ _ h => h) (Or.inl ⟨?_, ?_⟩) (by assumption) ?_; rotate_left; (focus (first | rfl | (simp [Region.wanted, yielded]; done))); (focus (intro w hSw; (try dsimp only at hSw); go_simp; all_goals (with_reducible rfl))); try simp only [Act.put, List.getElem_toArray, List.getElem_cons_zero, List.getElem_cons_succ, List.setIfInBounds_toArray, List.set_cons_zero, List.set_cons_succ])
      (refine wpAnyH_take (i := 8) (oi := _) (v := ?_) rfl (by kernel_rfl) (by kernel_rfl) (by kernel_rfl) (fun _ _ _ h => h) (Or.inl ⟨?_, ?_⟩) (by assumption) ?_; rotate_left; (focus (first | rfl | (simp [Region.wanted, yielded]; done))); (focus (intro w hSw; (try dsimp only at hSw); go_simp; all_goals (with_reducible rfl))); try simp only [Act.put, List.getElem_toArray, List.getElem_cons_zero, List.getElem_cons_succ, List.setIfInBounds_toArray, List.set_cons_zero, List.set_cons_succ])
      (refine wpAnyH_take (i := 9) (oi := _) (v := ?_) rfl (by kernel_rfl) (by kernel_rfl) (by kernel_rfl) (fun _ _ _ h => h) (Or.inl ⟨?_, ?_⟩) (by assumption) ?_; rotate_left; (focus (first | rfl | (simp [Region.wanted, yielded]; done))); (focus (intro w hSw; (try dsimp only at hSw); go_simp; all_goals (with_reducible rfl))); try simp only [Act.put, List.getElem_toArray, List.getElem_cons_zero, List.getElem_cons_succ, List.setIfInBounds_toArray, List.set_cons_zero, List.set_cons_succ])
      have c0 := (cells3 E0.out).2.1
      (refine wpAnyH_ready (rs := [1, 5]) (by kernel_rfl) (by simp) ?_; refine AllReadyH.cons (o := _) rfl (fun K hK => ?_) (AllReadyH.cons (o := _) rfl (fun K hK => ?_) AllReadyH.nil))
      · skip
        go_simp
        (refine hK.out _ _ hHeld (fun hHeld2 => ?_); clear hK K hHeld; have hHeld := hHeld2; clear hHeld2; try simp only [Act.put, List.getElem_toArray, List.getElem_cons_zero, List.getElem_cons_succ, List.setIfInBounds_toArray, List.set_cons_zero, List.set_cons_succ])
        (refine wpAnyH_ready (rs := [5]) (by kernel_rfl) (by simp) ?_; refine AllReadyH.cons (o := _) rfl (fun K hK => ?_) AllReadyH.nil)
        go_simp
        refine (SA.out _).mono ?_
        rintro e u1 ⟨rfl, hb⟩
        have O1 := Lib.hid (O0.out.below hb)
        have E1 := Lib.hid ((hb.block o (lt_of_block E0.out)).trans E0.out)
        have S1 := Lib.hid (Kx.trans S0.out (Kx.of_below (hb.mono z0)))
        have L1 := Lib.hid (L0.out.trans (hb.mono zB0))
        have z1 : B1 ≤ u1.heap.size := Nat.le_trans z0 hb.size
        have zB1 : B ≤ u1.heap.size := Nat.le_trans zB0 hb.size
        clear hb
        (refine hK.out _ _ S1.out (fun hHeld2 => ?_); clear hK K hHeld; have hHeld := hHeld2; clear hHeld2; try simp only [Act.put, List.getElem_toArray, List.getElem_cons_zero, List.getElem_cons_succ, List.setIfInBounds_toArray, List.set_cons_zero, List.set_cons_succ])
        have c1 := (cells3 E1.out).2.1
        (refine wpAnyH_ready (rs := [10]) (by kernel_rfl) (by simp) ?_; refine AllReadyH.cons (o := _) rfl (fun K hK => ?_) AllReadyH.nil)
        go_simp
        refine (CA.out _).mono ?_
        rintro e uu ⟨rfl, rfl⟩
        (refine hK.out _ _ hHeld (fun hHeld2 => ?_); clear hK K hHeld; have hHeld := hHeld2; clear hHeld2; try simp only [Act.put, List.getElem_toArray, List.getElem_cons_zero, List.getElem_cons_succ, List.setIfInBounds_toArray, List.set_cons_zero, List.set_cons_succ])
        (refine wpAnyH_ready (rs := [11]) (by kernel_rfl) (by simp) ?_; refine AllReadyH.cons (o := _) rfl (fun K hK => ?_) AllReadyH.nil)
        go_simp
        (refine hK.out _ _ (Kx.trans S1.out (Kx.of_below ((Below.refl B1 u1).alloc z1 _))) (fun hHeld2 => ?_); clear hK K hHeld; have hHeld := hHeld2; clear hHeld2; try simp only [Act.put, List.getElem_toArray, List.getElem_cons_zero, List.getElem_cons_succ, List.setIfInBounds_toArray, List.set_cons_zero, List.set_cons_succ])
        (refine wpAnyH_ready (rs := [12]) (by kernel_rfl) (by simp) ?_; refine AllReadyH.cons (o := _) rfl (fun K hK => ?_) AllReadyH.nil)
        refine step_app1L rfl (.tmp 39) (.tmp 49) 22 rfl Tryd.underlying22 info_str rfl B1 (.slice Ao no co) no _ u1 (.string (mkB y)) rfl rfl rfl rfl (O1.out.below ((Below.refl _ _).alloc (Nat.le_refl _) _)).row z1 (by omega) (by omega) ?_
        intro g6 c6 u2 hown hg hl hb
        have O2 : Hid (Own u2 B1 (.slice (some ⟨g6, 0, none⟩) (no + 1) c6) ((Sl.sigF s.data.toList i m.data.toList).take (k + 1))) := Lib.hid ⟨no + 1, by rw [SS.out, List.length_append, ← HNO.out]; rfl, by rw [SS.out, sv_app, sv_one]; exact hown⟩
        have E2 : Hid (u2.heap[o]? = some (.cells #[.int .i64 (i : Int), .slice Ao no co, .slice none 0 0] 24 (0, 0))) := Lib.hid (blk_keep hg (O1.out.below ((Below.refl _ _).alloc (Nat.le_refl _) _)).row ((alloc_old _ _ (lt_of_block E1.out)).trans E1.out) t24)
        have S2 := Lib.hid (Kx.trans S1.out (Kx.of_below hb))
        have L2 := Lib.hid (L1.out.trans (hb.mono hBB1))
        have z2 : B1 ≤ u2.heap.size := by have := hb.size; omega
        clear hown hg hl hb
        (refine hK.out _ _ S2.out (fun hHeld2 => ?_); clear hK K hHeld; have hHeld := hHeld2; clear hHeld2; try simp only [Act.put, List.getElem_toArray, List.getElem_cons_zero, List.getElem_cons_succ, List.setIfInBounds_toArray, List.set_cons_zero, List.set_cons_succ])
        (refine wpAnyH_take (i := 13) (oi := _) (v := ?_) rfl (by kernel_rfl) (by kernel_rfl) (by kernel_rfl) (fun _ _ _ h => h) (Or.inl ⟨?_, ?_⟩) (by assumption) ?_; rotate_left; (focus (first | rfl | (simp [Region.wanted, yielded]; done))); (focus (intro w hSw; (try dsimp only at hSw); go_simp; all_goals (with_reducible rfl))); try simp only [Act.put, List.getElem_toArray, List.getElem_cons_zero, List.getElem_cons_succ, List.setIfInBounds_toArray, List.set_cons_zero, List.set_cons_succ])
        have c2 := (cells3 E2.out).2.1
        (refine wpAnyH_ready (rs := [14]) (by kernel_rfl) (by simp) ?_; refine AllReadyH.cons (o := _) rfl (fun K hK => ?_) AllReadyH.nil)
        have hf := free_blk E2.out 1
        go_simp
        have NX2 : Hid (SgR B w W1 (u2.setCell ⟨o, 1, none⟩ (.slice (some ⟨g6, 0, none⟩) (no + 1) c6)) B1 o i s.data.toList m.data.toList (k + 1) (.slice (some ⟨g6, 0, none⟩) (no + 1) c6)) := Lib.hid ⟨O2.out.set_ E2.out t24 1 _, row_put E2.out _, Kx.set S2.out 1 _, L2.out.setCell (by show B ≤ o; exact hBo) _⟩
        (refine hK.out _ _ (Kx.set S2.out 1 _) (fun hHeld2 => ?_); clear hK K hHeld; have hHeld := hHeld2; clear hHeld2; try simp only [Act.put, List.getElem_toArray, List.getElem_cons_zero, List.getElem_cons_succ, List.setIfInBounds_toArray, List.set_cons_zero, List.set_cons_succ])
        (refine wpAnyH_done (by kernel_rfl) ?_ _; refine NoPanic.normal ?_)
        clear hHeld
        go_wp2_with fail
        exact ⟨⟨k + 1, _, by omega, by go_num, NX2⟩, by simp [intOf]; omega⟩
      · skip
        go_simp
        refine (SA.out _).mono ?_
        rintro e u1 ⟨rfl, hb⟩
        have O1 := Lib.hid (O0.out.below hb)
        have E1 := Lib.hid ((hb.block o (lt_of_block E0.out)).trans E0.out)
        have S1 := Lib.hid (Kx.trans S0.out (Kx.of_below (hb.mono z0)))
        have L1 := Lib.hid (L0.out.trans (hb.mono zB0))
        have z1 : B1 ≤ u1.heap.size := Nat.le_trans z0 hb.size
        have zB1 : B ≤ u1.heap.size := Nat.le_trans zB0 hb.size
        clear hb
        (refine hK.out _ _ S1.out (fun hHeld2 => ?_); clear hK K hHeld; have hHeld := hHeld2; clear hHeld2; try simp only [Act.put, List.getElem_toArray, List.getElem_cons_zero, List.getElem_cons_succ, List.setIfInBounds_toArray, List.set_cons_zero, List.set_cons_succ])
        have c1 := (cells3 E1.out).2.1
        (refine wpAnyH_ready (rs := [1, 10]) (by kernel_rfl) (by simp) ?_; refine AllReadyH.cons (o := _) rfl (fun K hK => ?_) (AllReadyH.cons (o := _) rfl (fun K hK => ?_) AllReadyH.nil))
        · skip
          go_simp
          (refine hK.out _ _ hHeld (fun hHeld2 => ?_); clear hK K hHeld; have hHeld := hHeld2; clear hHeld2; try simp only [Act.put, List.getElem_toArray, List.getElem_cons_zero, List.getElem_cons_succ, List.setIfInBounds_toArray, List.set_cons_zero, List.set_cons_succ])
          (refine wpAnyH_ready (rs := [10]) (by kernel_rfl) (by simp) ?_; refine AllReadyH.cons (o := _) rfl (fun K hK => ?_) AllReadyH.nil)
          go_simp
          refine (CA.out _).mono ?_
          rintro e uu ⟨rfl, rfl⟩
          (refine hK.out _ _ hHeld (fun hHeld2 => ?_); clear hK K hHeld; have hHeld := hHeld2; clear hHeld2; try simp only [Act.put, List.getElem_toArray, List.getElem_cons_zero, List.getElem_cons_succ, List.setIfInBounds_toArray, List.set_cons_zero, List.set_cons_succ])
          (refine wpAnyH_ready (rs := [11]) (by kernel_rfl) (by simp) ?_; refine AllReadyH.cons (o := _) rfl (fun K hK => ?_) AllReadyH.nil)
          go_simp
          (refine hK.out _ _ (Kx.trans S1.out (Kx.of_below ((Below.refl B1 u1).alloc z1 _))) (fun hHeld2 => ?_); clear hK K hHeld; have hHeld := hHeld2; clear hHeld2; try simp only [Act.put, List.getElem_toArray, List.getElem_cons_zero, List.getElem_cons_succ, List.setIfInBounds_toArray, List.set_cons_zero, List.set_cons_succ])
          (refine wpAnyH_ready (rs := [12]) (by kernel_rfl) (by simp) ?_; refine AllReadyH.cons (o := _) rfl (fun K hK => ?_) AllReadyH.nil)
          refine step_app1L rfl (.tmp 39) (.tmp 49) 22 rfl Tryd.underlying22 info_str rfl B1 (.slice Ao no co) no _ u1 (.string (mkB y)) rfl rfl rfl rfl (O1.out.below ((Below.refl _ _).alloc (Nat.le_refl _) _)).row z1 (by omega) (by omega) ?_
          intro g6 c6 u2 hown hg hl hb
          have O2 : Hid (Own u2 B1 (.slice (some ⟨g6, 0, none⟩) (no + 1) c6) ((Sl.sigF s.data.toList i m.data.toList).take (k + 1))) := Lib.hid ⟨no + 1, by rw [SS.out, List.length_append, ← HNO.out]; rfl, by rw [SS.out, sv_app, sv_one]; exact hown⟩
          have E2 : Hid (u2.heap[o]? = some (.cells #[.int .i64 (i : Int), .slice Ao no co, .slice none 0 0] 24 (0, 0))) := Lib.hid (blk_keep hg (O1.out.below ((Below.refl _ _).alloc (Nat.le_refl _) _)).row ((alloc_old _ _ (lt_of_block E1.out)).trans E1.out) t24)
          have S2 := Lib.hid (Kx.trans S1.out (Kx.of_below hb))
          have L2 := Lib.hid (L1.out.trans (hb.mono hBB1))
          have z2 : B1 ≤ u2.heap.size := by have := hb.size; omega
          clear hown hg hl hb
          (refine hK.out _ _ S2.out (fun hHeld2 => ?_); clear hK K hHeld; have hHeld := hHeld2; clear hHeld2; try simp only [Act.put, List.getElem_toArray, List.getElem_cons_zero, List.getElem_cons_succ, List.setIfInBounds_toArray, List.set_cons_zero, List.set_cons_succ])
          (refine wpAnyH_take (i := 13) (oi := _) (v := ?_) rfl (by kernel_rfl) (by kernel_rfl) (by kernel_rfl) (fun _ _ _ h => h) (Or.inl ⟨?_, ?_⟩) (by assumption) ?_; rotate_left; (focus (first | rfl | (simp [Region.wanted, yielded]; done))); (focus (intro w hSw; (try dsimp only at hSw); go_simp; all_goals (with_reducible rfl))); try simp only [Act.put, List.getElem_toArray, List.getElem_cons_zero, List.getElem_cons_succ, List.setIfInBounds_toArray, List.set_cons_zero, List.set_cons_succ])
          have c2 := (cells3 E2.out).2.1
          (refine wpAnyH_ready (rs := [14]) (by kernel_rfl) (by simp) ?_; refine AllReadyH.cons (o := _) rfl (fun K hK => ?_) AllReadyH.nil)
          have hf := free_blk E2.out 1
          go_simp
          have NX2 : Hid (SgR B w W1 (u2.setCell ⟨o, 1, none⟩ (.slice (some ⟨g6, 0, none⟩) (no + 1) c6)) B1 o i s.data.toList m.data.toList (k + 1) (.slice (some ⟨g6, 0, none⟩) (no + 1) c6)) := Lib.hid ⟨O2.out.set_ E2.out t24 1 _, row_put E2.out _, Kx.set S2.out 1 _, L2.out.setCell (by show B ≤ o; exact hBo) _⟩
          (refine hK.out _ _ (Kx.set S2.out 1 _) (fun hHeld2 => ?_); clear hK K hHeld; have hHeld := hHeld2; clear hHeld2; try simp only [Act.put, List.getElem_toArray, List.getElem_cons_zero, List.getElem_cons_succ, List.setIfInBounds_toArray, List.set_cons_zero, List.set_cons_succ])
          (refine wpAnyH_done (by kernel_rfl) ?_ _; refine NoPanic.normal ?_)
          clear hHeld
          go_wp2_with fail
          exact ⟨⟨k + 1, _, by omega, by go_num, NX2⟩, by simp [intOf]; omega⟩
        · skip
          go_simp
          refine (CA.out _).mono ?_
          rintro e uu ⟨rfl, rfl⟩
          (refine hK.out _ _ hHeld (fun hHeld2 => ?_); clear hK K hHeld; have hHeld := hHeld2; clear hHeld2; try simp only [Act.put, List.getElem_toArray, List.getElem_cons_zero, List.getElem_cons_succ, List.setIfInBounds_toArray, List.set_cons_zero, List.set_cons_succ])
          (refine wpAnyH_ready (rs := [1, 11]) (by kernel_rfl) (by simp) ?_; refine AllReadyH.cons (o := _) rfl (fun K hK => ?_) (AllReadyH.cons (o := _) rfl (fun K hK => ?_) AllReadyH.nil))
          · skip
            go_simp
            (refine hK.out _ _ hHeld (fun hHeld2 => ?_); clear hK K hHeld; have hHeld := hHeld2; clear hHeld2; try simp only [Act.put, List.getElem_toArray, List.getElem_cons_zero, List.getElem_cons_succ, List.setIfInBounds_toArray, List.set_cons_zero, List.set_cons_succ])
            (refine wpAnyH_ready (rs := [11]) (by kernel_rfl) (by simp) ?_; refine AllReadyH.cons (o := _) rfl (fun K hK => ?_) AllReadyH.nil)
            go_simp
            (refine hK.out _ _ (Kx.trans S1.out (Kx.of_below ((Below.refl B1 u1).alloc z1 _))) (fun hHeld2 => ?_); clear hK K hHeld; have hHeld := hHeld2; clear hHeld2; try simp only [Act.put, List.getElem_toArray, List.getElem_cons_zero, List.getElem_cons_succ, List.setIfInBounds_toArray, List.set_cons_zero, List.set_cons_succ])
            (refine wpAnyH_ready (rs := [12]) (by kernel_rfl) (by simp) ?_; refine AllReadyH.cons (o := _) rfl (fun K hK => ?_) AllReadyH.nil)
            refine step_app1L rfl (.tmp 39) (.tmp 49) 22 rfl Tryd.underlying22 info_str rfl B1 (.slice Ao no co) no _ u1 (.string (mkB y)) rfl rfl rfl rfl (O1.out.below ((Below.refl _ _).alloc (Nat.le_refl _) _)).row z1 (by omega) (by omega) ?_
            intro g6 c6 u2 hown hg hl hb
            have O2 : Hid (Own u2 B1 (.slice (some ⟨g6, 0, none⟩) (no + 1) c6) ((Sl.sigF s.data.toList i m.data.toList).take (k + 1))) := Lib.hid ⟨no + 1, by rw [SS.out, List.length_append, ← HNO.out]; rfl, by rw [SS.out, sv_app, sv_one]; exact hown⟩
            have E2 : Hid (u2.heap[o]? = some (.cells #[.int .i64 (i : Int), .slice Ao no co, .slice none 0 0] 24 (0, 0))) := Lib.hid (blk_keep hg (O1.out.below ((Below.refl _ _).alloc (Nat.le_refl _) _)).row ((alloc_old _ _ (lt_of_block E1.out)).trans E1.out) t24)
            have S2 := Lib.hid (Kx.trans S1.out (Kx.of_below hb))
            have L2 := Lib.hid (L1.out.trans (hb.mono hBB1))
            have z2 : B1 ≤ u2.heap.size := by have := hb.size; omega
            clear hown hg hl hb
            (refine hK.out _ _ S2.out (fun hHeld2 => ?_); clear hK K hHeld; have hHeld := hHeld2; clear hHeld2; try simp only [Act.put, List.getElem_toArray, List.getElem_cons_zero, List.getElem_cons_succ, List.setIfInBounds_toArray, List.set_cons_zero, List.set_cons_succ])
            (refine wpAnyH_take (i := 13) (oi := _) (v := ?_) rfl (by kernel_rfl) (by kernel_rfl) (by kernel_rfl) (fun _ _ _ h => h) (Or.inl ⟨?_, ?_⟩) (by assumption) ?_; rotate_left; (focus (first | rfl | (simp [Region.wanted, yielded]; done))); (focus (intro w hSw; (try dsimp only at hSw); go_simp; all_goals (with_reducible rfl))); try simp only [Act.put, List.getElem_toArray, List.getElem_cons_zero, List.getElem_cons_succ, List.setIfInBounds_toArray, List.set_cons_zero, List.set_cons_succ])
            have c2 := (cells3 E2.out).2.1
            (refine wpAnyH_ready (rs := [14]) (by kernel_rfl) (by simp) ?_; refine AllReadyH.cons (o := _) rfl (fun K hK => ?_) AllReadyH.nil)
            have hf := free_blk E2.out 1
            go_simp
            have NX2 : Hid (SgR B w W1 (u2.setCell ⟨o, 1, none⟩ (.slice (some ⟨g6, 0, none⟩) (no + 1) c6)) B1 o i s.data.toList m.data.toList (k + 1) (.slice (some ⟨g6, 0, none⟩) (no + 1) c6)) := Lib.hid ⟨O2.out.set_ E2.out t24 1 _, row_put E2.out _, Kx.set S2.out 1 _, L2.out.setCell (by show B ≤ o; exact hBo) _⟩
            (refine hK.out _ _ (Kx.set S2.out 1 _) (fun hHeld2 => ?_); clear hK K hHeld; have hHeld := hHeld2; clear hHeld2; try simp only [Act.put, List.getElem_toArray, List.getElem_cons_zero, List.getElem_cons_succ, List.setIfInBounds_toArray, List.set_cons_zero, List.set_cons_succ])
            (refine wpAnyH_done (by kernel_rfl) ?_ _; refine NoPanic.normal ?_)
            clear hHeld
            go_wp2_with fail
            exact ⟨⟨k + 1, _, by omega, by go_num, NX2⟩, by simp [intOf]; omega⟩
          · skip
            go_simp
            (refine hK.out _ _ (Kx.trans S1.out (Kx.of_below ((Below.refl B1 u1).alloc z1 _))) (fun hHeld2 => ?_); clear hK K hHeld; have hHeld := hHeld2; clear hHeld2; try simp only [Act.put, List.getElem_toArray, List.getElem_cons_zero, List.getElem_cons_succ, List.setIfInBounds_toArray, List.set_cons_zero, List.set_cons_succ])
            have cA : (u1.alloc (.cells #[.string (mkB y)] 9)).cell? ⟨o, 1, none⟩ = some (.slice Ao no co) := (World.cell?_of_block (a := ⟨o, 1, none⟩) (alloc_old _ _ (lt_of_block E1.out))).trans c1
            (refine wpAnyH_ready (rs := [1]) (by kernel_rfl) (by simp) ?_; refine AllReadyH.cons (o := _) rfl (fun K hK => ?_) AllReadyH.nil)
            go_simp
            (refine hK.out _ _ hHeld (fun hHeld2 => ?_); clear hK K hHeld; have hHeld := hHeld2; clear hHeld2; try simp only [Act.put, List.getElem_toArray, List.getElem_cons_zero, List.getElem_cons_succ, List.setIfInBounds_toArray, List.set_cons_zero, List.set_cons_succ])
            (refine wpAnyH_ready (rs := [12]) (by kernel_rfl) (by simp) ?_; refine AllReadyH.cons (o := _) rfl (fun K hK => ?_) AllReadyH.nil)
            refine step_app1L rfl (.tmp 39) (.tmp 49) 22 rfl Tryd.underlying22 info_str rfl B1 (.slice Ao no co) no _ u1 (.string (mkB y)) rfl rfl rfl rfl (O1.out.below ((Below.refl _ _).alloc (Nat.le_refl _) _)).row z1 (by omega) (by omega) ?_
            intro g6 c6 u2 hown hg hl hb
            have O2 : Hid (Own u2 B1 (.slice (some ⟨g6, 0, none⟩) (no + 1) c6) ((Sl.sigF s.data.toList i m.data.toList).take (k + 1))) := Lib.hid ⟨no + 1, by rw [SS.out, List.length_append, ← HNO.out]; rfl, by rw [SS.out, sv_app, sv_one]; exact hown⟩
            have E2 : Hid (u2.heap[o]? = some (.cells #[.int .i64 (i : Int), .slice Ao no co, .slice none 0 0] 24 (0, 0))) := Lib.hid (blk_keep hg (O1.out.below ((Below.refl _ _).alloc (Nat.le_refl _) _)).row ((alloc_old _ _ (lt_of_block E1.out)).trans E1.out) t24)
            have S2 := Lib.hid (Kx.trans S1.out (Kx.of_below hb))
            have L2 := Lib.hid (L1.out.trans (hb.mono hBB1))
            have z2 : B1 ≤ u2.heap.size := by have := hb.size; omega
            clear hown hg hl hb
            (refine hK.out _ _ S2.out (fun hHeld2 => ?_); clear hK K hHeld; have hHeld := hHeld2; clear hHeld2; try simp only [Act.put, List.getElem_toArray, List.getElem_cons_zero, List.getElem_cons_succ, List.setIfInBounds_toArray, List.set_cons_zero, List.set_cons_succ])
            (refine wpAnyH_take (i := 13) (oi := _) (v := ?_) rfl (by kernel_rfl) (by kernel_rfl) (by kernel_rfl) (fun _ _ _ h => h) (Or.inl ⟨?_, ?_⟩) (by assumption) ?_; rotate_left; (focus (first | rfl | (simp [Region.wanted, yielded]; done))); (focus (intro w hSw; (try dsimp only at hSw); go_simp; all_goals (with_reducible rfl))); try simp only [Act.put, List.getElem_toArray, List.getElem_cons_zero, List.getElem_cons_succ, List.setIfInBounds_toArray, List.set_cons_zero, List.set_cons_succ])
            have c2 := (cells3 E2.out).2.1
            (refine wpAnyH_ready (rs := [14]) (by kernel_rfl) (by simp) ?_; refine AllReadyH.cons (o := _) rfl (fun K hK => ?_) AllReadyH.nil)
            have hf := free_blk E2.out 1
            go_simp
            have NX2 : Hid (SgR B w W1 (u2.setCell ⟨o, 1, none⟩ (.slice (some ⟨g6, 0, none⟩) (no + 1) c6)) B1 o i s.data.toList m.data.toList (k + 1) (.slice (some ⟨g6, 0, none⟩) (no + 1) c6)) := Lib.hid ⟨O2.out.set_ E2.out t24 1 _, row_put E2.out _, Kx.set S2.out 1 _, L2.out.setCell (by show B ≤ o; exact hBo) _⟩
            (refine hK.out _ _ (Kx.set S2.out 1 _) (fun hHeld2 => ?_); clear hK K hHeld; have hHeld := hHeld2; clear hHeld2; try simp only [Act.put, List.getElem_toArray, List.getElem_cons_zero, List.getElem_cons_succ, List.setIfInBounds_toArray, List.set_cons_zero, List.set_cons_succ])
            (refine wpAnyH_done (by kernel_rfl) ?_ _; refine NoPanic.normal ?_)
            clear hHeld
            go_wp2_with fail
            exact ⟨⟨k + 1, _, by omega, by go_num, NX2⟩, by simp [intOf]; omega⟩
    · have hk2 : k = 18 := by omega
      subst hk2
      have d1 : ¬ ((18 : Nat) : Int) < 18 := by decide
      have TE : (Sl.sigF s.data.toList i m.data.toList).take 18 = Sl.sigF s.data.toList i m.data.toList := List.take_of_length_le (by rw [sigF_len]; exact Nat.le_refl _)
      have HE := HNO.out
      rw [TE, sigF_len] at HE
      subst HE
      have O1 := hg.out.own
      rw [TE] at O1
      have E1 := Lib.hid hg.out.blk
      have L1 := Lib.hid hg.out.bel
      have O1 := Lib.hid O1
      have BK : Hid (wr.heap[B]? = some (.cells #[.int .i64 0, .slice none 0 0, .slice none 0 0] 24 (0, 0))) := Lib.hid ((hg.out.kx.2 B (by have := HBO.out; omega) (by have := HBO.out; omega)).trans KB.out)
      have sg : Hid ((Sl.sigF s.data.toList i m.data.toList).length = 18) := Lib.hid (sigF_len _ _ _)
      generalize Sl.sigF s.data.toList i m.data.toList = SG at *
      clear TE HNO hg
      go_wp2_with fail
      refine (KA.out _).mono ?_
      rintro e w2 ⟨Ak, ck, rfl, ok, hb2⟩
      have RK := Lib.hid (Rd.of_own ok)
      have O2 := Lib.hid (O1.out.below hb2)
      have E2 := Lib.hid ((hb2.block o (lt_of_block E1.out)).trans E1.out)
      have L2 := Lib.hid (L1.out.trans (hb2.mono zzB))
      have K2 := Lib.hid ((hb2.block B (lt_of_block BK.out)).trans BK.out)
      have zB2 : B ≤ w2.heap.size := Nat.le_trans zzB hb2.size
      clear ok hb2 O1 E1 L1 BK zz zzB
      go_wp2_with fail
      refine (TA.out _ _ _ RK.out).mono ?_
      rintro e w3 ⟨Ap, cp, rfl, op, hb3⟩
      rw [pl.out] at op ⊢
      have OP : Hid (Own w3 w2.heap.size (.slice Ap h cp) PT) := Lib.hid ⟨h, pl.out.symm, op⟩
      have O3 := Lib.hid (O2.out.below hb3)
      have E3 := Lib.hid ((hb3.block o (lt_of_block E2.out)).trans E2.out)
      have L3 := Lib.hid (L2.out.trans (hb3.mono zB2))
      have K3 := Lib.hid ((hb3.block B (lt_of_block K2.out)).trans K2.out)
      clear op hb3 O2 E2 L2 K2 RK zB2
      obtain ⟨x0, x1, x2⟩ := cells3 E3.out
      obtain ⟨y0, y1, y2⟩ := cells3 K3.out
      have hf0 := free_blk E3.out 2
      have hBo2 : ¬ o = B := by have := HBO.out; omega
      have hBo3 : ¬ B = o := by have := HBO.out; omega
      have f0 := free_blk K3.out 0
      have f1 := free_blk K3.out 1
      have f2 := free_blk K3.out 2
      obtain ⟨w4, hw4⟩ : ∃ W, W = w3.setCell ⟨o, 2, none⟩ (.slice Ap h cp) := ⟨_, rfl⟩
      have E4 : Hid (w4.heap[o]? = some (.cells #[.int .i64 (i : Int), .slice Ao 18 co, .slice Ap h cp] 24 (0, 0))) := Lib.hid (by rw [hw4]; exact row_put E3.out _)
      have K4 : Hid (w4.heap[B]? = some (.cells #[.int .i64 0, .slice none 0 0, .slice none 0 0] 24 (0, 0))) := Lib.hid (by rw [hw4]; exact (Below.heap_setCell _ _ _ _ hBo3).trans K3.out)
      have O4 : Hid (Own w4 B1 (.slice Ao 18 co) SG) := Lib.hid (by rw [hw4]; exact O3.out.set_ E3.out t24 2 _)
      have P4 : Hid (Own w4 w2.heap.size (.slice Ap h cp) PT) := Lib.hid (by rw [hw4]; exact OP.out.set_ E3.out t24 2 _)
      have L4 : Hid (Below B w w4) := Lib.hid (by rw [hw4]; exact L3.out.setCell (by show B ≤ o; exact hBo) _)
      clear O3 OP L3 y0 y1 y2
      go_upto_region 10 with fail
      rw [← hw4]
      clear hw4 x0 x1 x2 hf0 E3 K3 f0 f1 f2
      obtain ⟨x0, x1, x2⟩ := cells3 E4.out
      obtain ⟨y0, y1, y2⟩ := cells3 K4.out
      have f0 := free_blk K4.out 0
      have f1 := free_blk K4.out 1
      have f2 := free_blk K4.out 2
      obtain ⟨w5, hw5⟩ : ∃ W, W = ((w4.setCell ⟨B, 0, none⟩ (.int .i64 (i : Int))).setCell ⟨B, 1, none⟩ (.slice Ao 18 co)).setCell ⟨B, 2, none⟩ (.slice Ap h cp) := ⟨_, rfl⟩
      have K5 : Hid (w5.heap[B]? = some (.cells #[.int .i64 (i : Int), .slice Ao 18 co, .slice Ap h cp] 24 (0, 0))) := Lib.hid (by rw [hw5]; exact row_put (row_put (row_put K4.out _) _) _)
      have O5 : Hid (Own w5 B1 (.slice Ao 18 co) SG) := Lib.hid (by rw [hw5]; exact (((O4.out.set_ K4.out t24 0 _).set_ (row_put K4.out _) t24 1 _).set_ (row_put (row_put K4.out _) _) t24 2 _))
      have P5 : Hid (Own w5 w2.heap.size (.slice Ap h cp) PT) := Lib.hid (by rw [hw5]; exact (((P4.out.set_ K4.out t24 0 _).set_ (row_put K4.out _) t24 1 _).set_ (row_put (row_put K4.out _) _) t24 2 _))
      have L5 : Hid (Below B w w5) := Lib.hid (by rw [hw5]; exact ((L4.out.setCell (by show B ≤ B; exact Nat.le_refl _) _).setCell (by show B ≤ B; exact Nat.le_refl _) _).setCell (by show B ≤ B; exact Nat.le_refl _) _)
      go_wp2_with fail
      rw [← hw5]
      clear hw5 x0 x1 x2 y0 y1 y2 f0 f1 f2
      obtain ⟨x0, x1, x2⟩ := cells3 K5.out
      have hlo := own_form O5.out.row
      have hlp := own_form P5.out.row
      refine bodyPost_ret (v := .tuple #[.agg #[.int .i64 (i : Int), .slice Ao 18 co, .slice Ap h cp], .int .i64 0]) (by simp [results, Tryd.results16, go_sem, x0, x1, x2]) rfl ?_
      obtain ⟨_, _, e1, h1, h2⟩ := hlo
      obtain ⟨_, _, e2, h3, h4⟩ := hlp
      cases e1; cases e2
      exact ⟨Ao, co, Ap, cp, by rw [sg.out, pl.out], by rw [sg.out]; exact h1, h2, by rw [pl.out]; exact h3, h4, O5.out.rd, P5.out.rd, by rw [HW.out]; exact L5.out⟩
end Go.Proofs.YthceonkdmcidcaaDoor
