/- WALK: SealChanges (printed by gen_seal.py). -/
import Derived.Test.YthceonkdmcidcaaDoorUH
import Derived.Deep.DeepCutAuto
set_option linter.unusedSimpArgs false
set_option linter.unusedVariables false
namespace Go.Proofs.YthceonkdmcidcaaDoor
open Go.RowKit

set_option maxRecDepth 100000 in
set_option maxHeartbeats 8000000 in
theorem walk_SealChanges (s : ByteArray) (x y : Int) (m : ByteArray) (z : Int) (o : ByteArray) (w : World) (hs0 : s.size ≤ 9223372036854775807) (hx0 : 0 ≤ x) (hx1 : x ≤ 255) (hy0 : 0 ≤ y) (hy1 : y ≤ 255) (hm0 : m.size ≤ 9223372036854775807) (hz0 : 0 ≤ z) (hz1 : z ≤ 255) (ho0 : o.size ≤ 9223372036854775807) (ht : Tab w) :
    Calls Tryd.prog 7 #[.string s, .int .u8 x, .int .u8 y, .string m, .int .u8 z, .string o] w fun e w' => e = .returned (.bool true) ∧ Below w.heap.size w w' := by
  have HD := Lib.hid (shead_any w ht)
  have HT := Lib.hid ht; clear ht
  obtain ⟨p, rfl⟩ : ∃ p : Nat, x = p := ⟨x.toNat, by omega⟩
  obtain ⟨p2, rfl⟩ : ∃ p : Nat, y = p := ⟨y.toNat, by omega⟩
  obtain ⟨p3, rfl⟩ : ∃ p : Nat, z = p := ⟨z.toNat, by omega⟩
  obtain ⟨h, HH⟩ : ∃ h : Nat, Hid (p % 3 = h) := ⟨_, Lib.hid rfl⟩
  have h4 : h < 3 := by rw [← HH.out]; exact Nat.mod_lt _ (by decide)
  have hh8 : h ≤ 8 := Nat.le_trans (Nat.le_of_lt h4) (by decide)
  obtain ⟨n, HN⟩ : ∃ n : Nat, Hid (2 ^ h = n) := ⟨_, Lib.hid rfl⟩
  have n0 : 0 < n := by rw [← HN.out]; exact pow_pos2 h
  have n8 : n ≤ 256 := by rw [← HN.out]; exact pow_le8 hh8
  obtain ⟨i, HI⟩ : ∃ i : Nat, Hid (p2 % n = i) := ⟨_, Lib.hid rfl⟩
  have hin : i < n := by rw [← HI.out]; exact Nat.mod_lt _ n0
  have hi2 : Hid (i < 2 ^ h) := Lib.hid (by rw [HN.out]; exact hin)
  have w9 : IntKind.i64.wrap (p : Int) = (p : Int) := IntWalk.i64_in _ (by omega)
  have w8 : IntKind.i64.wrap (p2 : Int) = (p2 : Int) := IntWalk.i64_in _ (by omega)
  have i0 : (0 : Int) ≤ (h : Int) := by omega
  have i1 : (h : Int) < 64 := by omega
  have n1 : ¬ (n : Int) = 0 := by omega
  have n2 : (1 : Int) ≤ (n : Int) := by omega
  have p0 : (0 : Int) ≤ (p : Int) := hx0
  have p20 : (0 : Int) ≤ (p2 : Int) := hy0
  have T1 : Hid ((p : Int).tmod 3 = (h : Int)) := Lib.hid (by rw [Int.tmod_eq_emod_of_nonneg p0, ← HH.out]; rfl)
  have T2 : Hid ((p2 : Int).tmod (n : Int) = (i : Int)) := Lib.hid (by rw [Int.tmod_eq_emod_of_nonneg p20, ← HI.out]; rfl)
  have HPW : Hid (wrap64 (2 ^ h) = (n : Int) ∧ IntKind.i64.wrap (2 ^ h) = (n : Int)) := Lib.hid (by
    have a := wrap_pow hh8; have b := wrap_pow2 hh8
    rw [HN.out] at a b
    exact ⟨a, b⟩)
  have HZ := Lib.hid hz1
  clear hx0 hx1 hy0 hy1 hz0 hz1
  go_enter Tryd.func7, Tryd.ntmps7
  go_wp2_with fail
  refine HD.out.mono ?_
  rintro e w1 ⟨rfl, hb1⟩
  have B1 := Lib.hid hb1; clear hb1 HD
  have t1 := T1.out
  go_upto_region 3 with fail
  clear t1 w9
  obtain ⟨PW, PW2⟩ := HPW.out
  have t2 := T2.out
  go_upto_region 4 with fail
  clear PW PW2 t2 w8
  have B1a : Hid (Below w.heap.size w (w1.alloc (.cells #[.string s, .string m, .string o] 9))) := Lib.hid (B1.out.alloc B1.out.size _)
  go_wp2_with fail
  refine (short3_any s m o w1).mono ?_
  rintro e w1' ⟨⟨b, rfl, hfew⟩, rfl⟩
  have FW := Lib.hid hfew; clear hfew
  cases b with
  | false =>
    go_wp2_with fail
    go_ret
    exact ⟨rfl, B1a.out⟩
  | true =>
    have hs : s.size ≤ 300 := FW.out rfl s (by simp)
    have hm : m.size ≤ 300 := FW.out rfl m (by simp)
    have ho : o.size ≤ 300 := FW.out rfl o (by simp)
    clear FW
    have hs' : s.data.toList.length ≤ 300 := by rw [← Lib.size_eq]; exact hs
    obtain ⟨w2, hw2⟩ : ∃ W, W = w1.alloc (.cells #[.string s, .string m, .string o] 9) := ⟨_, rfl⟩
    rw [← hw2] at B1a ⊢
    clear hw2 B1
    have PA := Lib.hid (fun u (hu : Below w.heap.size w u) => public_any s h u hs hh8 (HT.out.keep hu))
    have GA := Lib.hid (fun u (hu : Below w.heap.size w u) => sign_any s m h i u hs (by omega) hh8 hi2.out (HT.out.keep hu))
    have MA := Lib.hid (fun u => made_any s h 15 (h : Int) 15 u rfl rfl hs hh8 (by decide) (by decide))
    have sl : Hid ((Sl.sigF s.data.toList i m.data.toList).length = 18) := Lib.hid (by simp [Sl.sigF])
    have pl : Hid ((Sl.pathS s.data.toList h i).length = h) := Lib.hid (Sl.path_len _ _ _)
    have sd : Hid (∀ t ∈ Sl.sigF s.data.toList i m.data.toList, t.length ≤ 300) := Lib.hid (isD_300 sigF_isD)
    have pd : Hid (∀ t ∈ Sl.pathS s.data.toList h i, t.length ≤ 300) := Lib.hid (isD_300 (pathS_isD hi2.out))
    have CHG : Hid (∀ (jj : Nat) (S' P' : List (List UInt8)), S'.length = 18 → (i = jj ∨ S' = Sl.sigF s.data.toList i m.data.toList) → verB (Sl.publicF s.data.toList h) m.data.toList (jj : Int) S' P' = true → same2F (jj : Int) (i : Int) S' (Sl.sigF s.data.toList i m.data.toList) P' (Sl.pathS s.data.toList h i) = false → ¬ Sl.Inj (Sl.Made s.data.toList h 15 ++ Sl.Checked m.data.toList jj S' P')) := Lib.hid (fun jj S' P' h18 hij hv hsm hI => by
      obtain ⟨f1, f2, f3, f4, f5, f6, f7, f8⟩ := ver_facts hv
      rw [Int.toNat_natCast] at f8
      obtain ⟨g1, g2, g3⟩ := Sl.changes hI (fun a ha => List.mem_append_left _ ha) (fun a ha => List.mem_append_right _ ha) h18 (by omega) hi2.out f8 hij
      rw [g2, g3, ← g1, same2F_refl] at hsm
      cases hsm)
    have zm := made_1e6 (s := s.data.toList) (h := h) (n := 15) hs' hh8
    have HZM := Lib.hid zm
    clear zm
    have HPU : Hid (∃ PU, Sl.publicF s.data.toList h = PU) := Lib.hid ⟨_, rfl⟩
    generalize Sl.sigF s.data.toList i m.data.toList = SG at *
    generalize Sl.pathS s.data.toList h i = PT at *
    have lm := made_len (s := s.data.toList) (h := h) (n := 15) hh8 (by decide)
    generalize Sl.Made s.data.toList h 15 = MD at *
    generalize Sl.publicF s.data.toList h = PU at *
    go_wp2_with fail
    refine (PA.out _ B1a.out).mono ?_
    rintro e w3 ⟨rfl, hb3⟩
    have B3 := Lib.hid (B1a.out.trans (hb3.mono B1a.out.size)); clear hb3 B1a PA
    go_wp2_with fail
    refine (GA.out _ B3.out).mono ?_
    rintro e w4 ⟨A1, c1, A2, c2, rfl, a1, a2, a3, a4, r1, r2, hb4⟩
    rw [sl.out, pl.out]
    have B4 := Lib.hid (B3.out.trans (hb4.mono B3.out.size)); clear hb4 B3 GA a1 a2 a3 a4
    have B4a : Hid (Below w.heap.size w (w4.alloc (.cells #[.int .i64 i, .slice A1 18 c1, .slice A2 h c2] 24))) := Lib.hid (B4.out.alloc B4.out.size _)
    have R1 := Lib.hid (r1.alloc (.cells #[.int .i64 i, .slice A1 18 c1, .slice A2 h c2] 24)); have R2 := Lib.hid (r2.alloc (.cells #[.int .i64 i, .slice A1 18 c1, .slice A2 h c2] 24))
    have G := Lib.hid (heap_alloc_new w4 (.cells #[.int .i64 i, .slice A1 18 c1, .slice A2 h c2] 24))
    obtain ⟨q, hq1⟩ : ∃ q, w4.heap.size = q := ⟨_, rfl⟩
    rw [hq1] at G
    obtain ⟨w5, hw5⟩ : ∃ W, W = w4.alloc (.cells #[.int .i64 i, .slice A1 18 c1, .slice A2 h c2] 24) := ⟨_, rfl⟩
    rw [← hw5] at B4a R1 R2 G
    clear r1 r2 B4
    have eh : ((h : Int) != (h : Int)) = false := by simp
    obtain ⟨x0, x1, x2⟩ := cells3 G.out
    go_upto_region 8 with fail
    rw [← hw5]
    clear hw5 hq1
    go_wp2_with fail
    clear x0 x1 x2 eh
    have hqw : q < w5.heap.size := lt_of_block G.out
    go_cut [20] (fun s20 wx => ∃ (e5 ca cb : Nat) (Aa Ab : Option Addr), s20 = .pointer (some ⟨e5, 0, none⟩) ∧ Hid (wx.heap[e5]? = some (.cells #[.int .i64 (i : Int), .slice Aa 18 ca, .slice Ab h cb] 24 (0, 0))) ∧ Hid (R3 wx w5.heap.size (.slice Aa 18 ca) (.slice Ab h cb) (.slice none 0 0) SG PT []) ∧ Hid (Below w5.heap.size w5 wx) ∧ Hid (w5.heap.size ≤ e5))
    case first =>
      have C0 : ∀ w', Below w5.heap.size w5 w' → w'.cell? ⟨q, 0, none⟩ = some (.int .i64 i) := fun w' h => (h.cell (p := ⟨q, 0, none⟩) hqw).trans (cells3 G.out).1
      have C1 : ∀ w', Below w5.heap.size w5 w' → w'.cell? ⟨q, 1, none⟩ = some (.slice A1 18 c1) := fun w' h => (h.cell (p := ⟨q, 1, none⟩) hqw).trans (cells3 G.out).2.1
      have C2 : ∀ w', Below w5.heap.size w5 w' → w'.cell? ⟨q, 2, none⟩ = some (.slice A2 h c2) := fun w' h => (h.cell (p := ⟨q, 2, none⟩) hqw).trans (cells3 G.out).2.2
      have RA := R1; have RB := R2
      clear R1 R2
      (refine wp_region_noPanic ?_; refine wp_region_held_drew (S := (fun w' => Below w5.heap.size w5 w')) (by kernel_rfl) ?_ (fun hHeld => ?_); exact ((Below.refl _ _).drew))
      obtain ⟨u0, hu0⟩ : ∃ u, u = w5.drew := ⟨_, rfl⟩
      have S0 : Hid (Below w5.heap.size w5 u0) := Lib.hid (by rw [hu0]; exact (Below.refl _ _).drew)
      have RW0 : Hid (R3 u0 w5.heap.size (.slice none 0 0) (.slice none 0 0) (.slice none 0 0) [] [] []) := Lib.hid (R3.start _ _)
      have z0 : w5.heap.size ≤ u0.heap.size := S0.out.size
      rw [← hu0] at hHeld ⊢
      clear hu0
      (refine wpAnyH_take (i := 0) (oi := _) (v := ?_) rfl (by kernel_rfl) (by kernel_rfl) (by kernel_rfl) (fun _ _ _ h => h) (Or.inl ⟨?_, ?_⟩) (by assumption) ?_; rotate_left; (focus (first | rfl | (simp [Region.wanted, yielded]; done))); (focus (intro w hSw; (try dsimp only at hSw); go_simp; all_goals (with_reducible rfl))); try simp only [Act.put, List.getElem_toArray, List.getElem_cons_zero, List.getElem_cons_succ, List.setIfInBounds_toArray, List.set_cons_zero, List.set_cons_succ])
      (refine wpAnyH_take (i := 1) (oi := _) (v := ?_) rfl (by kernel_rfl) (by kernel_rfl) (by kernel_rfl) (fun _ _ _ h => h) (Or.inl ⟨?_, ?_⟩) (by assumption) ?_; rotate_left; (focus (first | rfl | (simp [Region.wanted, yielded]; done))); (focus (intro w hSw; (try dsimp only at hSw); go_simp; all_goals (with_reducible rfl))); try simp only [Act.put, List.getElem_toArray, List.getElem_cons_zero, List.getElem_cons_succ, List.setIfInBounds_toArray, List.set_cons_zero, List.set_cons_succ])
      (refine wpAnyH_take (i := 3) (oi := _) (v := ?_) rfl (by kernel_rfl) (by kernel_rfl) (by kernel_rfl) (fun _ _ _ h => h) (Or.inl ⟨?_, ?_⟩) (by assumption) ?_; rotate_left; (focus (first | rfl | (simp [Region.wanted, yielded]; done))); (focus (intro w hSw; (try dsimp only at hSw); go_simp; all_goals (with_reducible rfl))); try simp only [Act.put, List.getElem_toArray, List.getElem_cons_zero, List.getElem_cons_succ, List.setIfInBounds_toArray, List.set_cons_zero, List.set_cons_succ])
      (refine wpAnyH_take (i := 4) (oi := _) (v := ?_) rfl (by kernel_rfl) (by kernel_rfl) (by kernel_rfl) (fun _ _ _ h => h) (Or.inl ⟨?_, ?_⟩) (by assumption) ?_; rotate_left; (focus (first | rfl | (simp [Region.wanted, yielded]; done))); (focus (intro w hSw; (try dsimp only at hSw); go_simp; all_goals (with_reducible rfl))); try simp only [Act.put, List.getElem_toArray, List.getElem_cons_zero, List.getElem_cons_succ, List.setIfInBounds_toArray, List.set_cons_zero, List.set_cons_succ])
      (refine wpAnyH_take (i := 7) (oi := _) (v := ?_) rfl (by kernel_rfl) (by kernel_rfl) (by kernel_rfl) (fun _ _ _ h => h) (Or.inl ⟨?_, ?_⟩) (by assumption) ?_; rotate_left; (focus (first | rfl | (simp [Region.wanted, yielded]; done))); (focus (intro w hSw; (try dsimp only at hSw); go_simp; all_goals (with_reducible rfl))); try simp only [Act.put, List.getElem_toArray, List.getElem_cons_zero, List.getElem_cons_succ, List.setIfInBounds_toArray, List.set_cons_zero, List.set_cons_succ])
      (refine wpAnyH_take (i := 8) (oi := _) (v := ?_) rfl (by kernel_rfl) (by kernel_rfl) (by kernel_rfl) (fun _ _ _ h => h) (Or.inl ⟨?_, ?_⟩) (by assumption) ?_; rotate_left; (focus (first | rfl | (simp [Region.wanted, yielded]; done))); (focus (intro w hSw; (try dsimp only at hSw); go_simp; all_goals (with_reducible rfl))); try simp only [Act.put, List.getElem_toArray, List.getElem_cons_zero, List.getElem_cons_succ, List.setIfInBounds_toArray, List.set_cons_zero, List.set_cons_succ])
      (refine wpAnyH_ready (rs := [2, 6, 11]) (by kernel_rfl) (by simp) ?_; refine AllReadyH.cons (o := _) rfl (fun K hK => ?_) (AllReadyH.cons (o := _) rfl (fun K hK => ?_) (AllReadyH.cons (o := _) rfl (fun K hK => ?_) AllReadyH.nil)))
      · skip
        go_simp
        (refine hK.out _ _ (Below.alloc hHeld z0 _) (fun hHeld2 => ?_); clear hK K hHeld; have hHeld := hHeld2; clear hHeld2; try simp only [Act.put, List.getElem_toArray, List.getElem_cons_zero, List.getElem_cons_succ, List.setIfInBounds_toArray, List.set_cons_zero, List.set_cons_succ])
        obtain ⟨ga, hg⟩ : ∃ g, u0.heap.size = g := ⟨_, rfl⟩
        obtain ⟨u1, hu⟩ : ∃ x, x = u0.alloc (.cells #[] 9) := ⟨_, rfl⟩
        have RW1 : Hid (R3 u1 w5.heap.size (.slice (some ⟨ga, 0, none⟩) 0 0) (.slice none 0 0) (.slice none 0 0) [] [] []) := Lib.hid (by rw [hu, ← hg]; exact R3.fresh RW0.out z0)
        have S1 : Hid (Below w5.heap.size w5 u1) := Lib.hid (by rw [hu]; exact S0.out.alloc z0 _)
        have z1 : w5.heap.size ≤ u1.heap.size := S1.out.size
        rw [← hu] at hHeld ⊢
        rw [hg]
        clear hu hg
        (refine wpAnyH_ready (rs := [5, 6, 11]) (by kernel_rfl) (by simp) ?_; refine AllReadyH.cons (o := _) rfl (fun K hK => ?_) (AllReadyH.cons (o := _) rfl (fun K hK => ?_) (AllReadyH.cons (o := _) rfl (fun K hK => ?_) AllReadyH.nil)))
        · skip
          refine step_appR (by simp [Region.wanted, yielded]) (.tmp 73) (.tmp 75) 22 rfl Tryd.underlying22 info_str rfl w5.heap.size (.slice (some ⟨ga, 0, none⟩) 0 0) 0 _ A1 18 c1 (sv SG) (sv_cells _) rfl rfl RW1.out.oa.row (RA.out.below (S1.out)) (by rw [sv_len, sl.out]) z1 (by omega) (by omega) ?_
          intro Aa ca u2 hown hg hl hb
          have hown2 : u2.ownsRow w5.heap.size 9 1 (.slice Aa 18 ca) 18 (sv SG) := by have t := hown; rw [Nat.zero_add] at t; exact t
          have hl2 : ∀ g, (Value.slice Aa 18 ca).ownBlock = some g → _ := fun g e => hl g (by rw [Nat.zero_add]; exact e)
          have S2 : Hid (Below w5.heap.size w5 u2) := Lib.hid (S1.out.trans hb)
          have RW2 : Hid (R3 u2 w5.heap.size (.slice Aa 18 ca) (.slice none 0 0) (.slice none 0 0) SG [] []) := Lib.hid (R3.grow RW1.out (X' := SG) ⟨18, by rw [sl.out], hown2⟩ hg hl2)
          have z2 : w5.heap.size ≤ u2.heap.size := S2.out.size
          (refine hK.out _ _ S2.out (fun hHeld2 => ?_); clear hK K hHeld; have hHeld := hHeld2; clear hHeld2; try simp only [Act.put, List.getElem_toArray, List.getElem_cons_zero, List.getElem_cons_succ, List.setIfInBounds_toArray, List.set_cons_zero, List.set_cons_succ])
          simp only [Nat.zero_add]
          clear hown hown2 hg hl hl2 hb
          (refine wpAnyH_ready (rs := [6, 11]) (by kernel_rfl) (by simp) ?_; refine AllReadyH.cons (o := _) rfl (fun K hK => ?_) (AllReadyH.cons (o := _) rfl (fun K hK => ?_) AllReadyH.nil))
          · skip
            go_simp
            (refine hK.out _ _ (Below.alloc hHeld z2 _) (fun hHeld2 => ?_); clear hK K hHeld; have hHeld := hHeld2; clear hHeld2; try simp only [Act.put, List.getElem_toArray, List.getElem_cons_zero, List.getElem_cons_succ, List.setIfInBounds_toArray, List.set_cons_zero, List.set_cons_succ])
            obtain ⟨gb, hg⟩ : ∃ g, u2.heap.size = g := ⟨_, rfl⟩
            obtain ⟨u3, hu⟩ : ∃ x, x = u2.alloc (.cells #[] 9) := ⟨_, rfl⟩
            have RW3 : Hid (R3 u3 w5.heap.size (.slice Aa 18 ca) (.slice (some ⟨gb, 0, none⟩) 0 0) (.slice none 0 0) SG [] []) := Lib.hid (by rw [hu, ← hg]; exact (R3.fresh RW2.out.swap z2).swap)
            have S3 : Hid (Below w5.heap.size w5 u3) := Lib.hid (by rw [hu]; exact S2.out.alloc z2 _)
            have z3 : w5.heap.size ≤ u3.heap.size := S3.out.size
            rw [← hu] at hHeld ⊢
            rw [hg]
            clear hu hg
            (refine wpAnyH_ready (rs := [9, 11]) (by kernel_rfl) (by simp) ?_; refine AllReadyH.cons (o := _) rfl (fun K hK => ?_) (AllReadyH.cons (o := _) rfl (fun K hK => ?_) AllReadyH.nil))
            · skip
              refine step_appR (by simp [Region.wanted, yielded]) (.tmp 77) (.tmp 79) 22 rfl Tryd.underlying22 info_str rfl w5.heap.size (.slice (some ⟨gb, 0, none⟩) 0 0) 0 _ A2 h c2 (sv PT) (sv_cells _) rfl rfl RW3.out.swap.oa.row (RB.out.below (S3.out)) (by rw [sv_len, pl.out]) z3 (by omega) (by omega) ?_
              intro Ab cb u4 hown hg hl hb
              have hown2 : u4.ownsRow w5.heap.size 9 1 (.slice Ab h cb) h (sv PT) := by have t := hown; rw [Nat.zero_add] at t; exact t
              have hl2 : ∀ g, (Value.slice Ab h cb).ownBlock = some g → _ := fun g e => hl g (by rw [Nat.zero_add]; exact e)
              have S4 : Hid (Below w5.heap.size w5 u4) := Lib.hid (S3.out.trans hb)
              have RW4 : Hid (R3 u4 w5.heap.size (.slice Aa 18 ca) (.slice Ab h cb) (.slice none 0 0) SG PT []) := Lib.hid ((R3.grow RW3.out.swap (X' := PT) ⟨h, by rw [pl.out], hown2⟩ hg hl2).swap)
              have z4 : w5.heap.size ≤ u4.heap.size := S4.out.size
              (refine hK.out _ _ S4.out (fun hHeld2 => ?_); clear hK K hHeld; have hHeld := hHeld2; clear hHeld2; try simp only [Act.put, List.getElem_toArray, List.getElem_cons_zero, List.getElem_cons_succ, List.setIfInBounds_toArray, List.set_cons_zero, List.set_cons_succ])
              simp only [Nat.zero_add]
              clear hown hown2 hg hl hl2 hb
              (refine wpAnyH_take (i := 10) (oi := _) (v := ?_) rfl (by kernel_rfl) (by kernel_rfl) (by kernel_rfl) (fun _ _ _ h => h) (Or.inl ⟨?_, ?_⟩) (by assumption) ?_; rotate_left; (focus (first | rfl | (simp [Region.wanted, yielded]; done))); (focus (intro w hSw; (try dsimp only at hSw); go_simp; all_goals (with_reducible rfl))); try simp only [Act.put, List.getElem_toArray, List.getElem_cons_zero, List.getElem_cons_succ, List.setIfInBounds_toArray, List.set_cons_zero, List.set_cons_succ])
              (refine wpAnyH_ready (rs := [11]) (by kernel_rfl) (by simp) ?_; refine AllReadyH.cons (o := _) rfl (fun K hK => ?_) AllReadyH.nil)
              go_simp
              (refine hK.out _ _ (Below.alloc hHeld z4 _) (fun hHeld2 => ?_); clear hK K hHeld; have hHeld := hHeld2; clear hHeld2; try simp only [Act.put, List.getElem_toArray, List.getElem_cons_zero, List.getElem_cons_succ, List.setIfInBounds_toArray, List.set_cons_zero, List.set_cons_succ])
              obtain ⟨e5, hg⟩ : ∃ g, u4.heap.size = g := ⟨_, rfl⟩
              have ze : w5.heap.size ≤ e5 := by rw [← hg]; exact z4
              obtain ⟨u5, hu⟩ : ∃ x, x = u4.alloc (.cells #[.int .i64 0, .slice none 0 0, .slice none 0 0] 24) := ⟨_, rfl⟩
              have RW5 : Hid (R3 u5 w5.heap.size (.slice Aa 18 ca) (.slice Ab h cb) (.slice none 0 0) SG PT []) := Lib.hid (by rw [hu]; exact RW4.out.alloc _)
              have S5 : Hid (Below w5.heap.size w5 u5) := Lib.hid (by rw [hu]; exact S4.out.alloc z4 _)
              have E5 : Hid (u5.heap[e5]? = some (.cells #[.int .i64 0, .slice none 0 0, .slice none 0 0] 24 (0, 0))) := Lib.hid (by rw [hu, ← hg]; exact heap_alloc_new u4 _)
              have z5 : w5.heap.size ≤ u5.heap.size := S5.out.size
              rw [← hu] at hHeld ⊢
              rw [hg]
              clear hu hg
              obtain ⟨y0, y1, y2⟩ := cells3 E5.out
              have f0 := free_blk E5.out 0
              have f1 := free_blk E5.out 1
              have f2 := free_blk E5.out 2
              (refine wpAnyH_ready (rs := [12]) (by kernel_rfl) (by simp) ?_; refine AllReadyH.cons (o := _) rfl (fun K hK => ?_) AllReadyH.nil; go_simp)
              (refine hK.out _ _ (Below.setCell (Below.setCell (Below.setCell S5.out (p := ⟨e5, 0, none⟩) ze _) (p := ⟨e5, 1, none⟩) ze _) (p := ⟨e5, 2, none⟩) ze _) (fun hHeld2 => ?_); clear hK K hHeld; have hHeld := hHeld2; clear hHeld2; try simp only [Act.put, List.getElem_toArray, List.getElem_cons_zero, List.getElem_cons_succ, List.setIfInBounds_toArray, List.set_cons_zero, List.set_cons_succ])
              (refine wpAnyH_done (by kernel_rfl) ?_ _; refine NoPanic.normal ?_)
              clear hHeld y0 y1 y2 f0 f1 f2
              go_wp2_with fail
              go_meet
              exact ⟨e5, ca, cb, Aa, Ab, rfl, Lib.hid (row_put (row_put (row_put E5.out _) _) _), Lib.hid (((RW5.out.set_ E5.out t24 0 _).set_ (row_put E5.out _) t24 1 _).set_ (row_put (row_put E5.out _) _) t24 2 _), Lib.hid (Below.setCell (Below.setCell (Below.setCell S5.out (p := ⟨e5, 0, none⟩) ze _) (p := ⟨e5, 1, none⟩) ze _) (p := ⟨e5, 2, none⟩) ze _), Lib.hid ze⟩
            · skip
              go_simp
              (refine hK.out _ _ (Below.alloc hHeld z3 _) (fun hHeld2 => ?_); clear hK K hHeld; have hHeld := hHeld2; clear hHeld2; try simp only [Act.put, List.getElem_toArray, List.getElem_cons_zero, List.getElem_cons_succ, List.setIfInBounds_toArray, List.set_cons_zero, List.set_cons_succ])
              obtain ⟨e5, hg⟩ : ∃ g, u3.heap.size = g := ⟨_, rfl⟩
              have ze : w5.heap.size ≤ e5 := by rw [← hg]; exact z3
              obtain ⟨u4, hu⟩ : ∃ x, x = u3.alloc (.cells #[.int .i64 0, .slice none 0 0, .slice none 0 0] 24) := ⟨_, rfl⟩
              have RW4 : Hid (R3 u4 w5.heap.size (.slice Aa 18 ca) (.slice (some ⟨gb, 0, none⟩) 0 0) (.slice none 0 0) SG [] []) := Lib.hid (by rw [hu]; exact RW3.out.alloc _)
              have S4 : Hid (Below w5.heap.size w5 u4) := Lib.hid (by rw [hu]; exact S3.out.alloc z3 _)
              have E4 : Hid (u4.heap[e5]? = some (.cells #[.int .i64 0, .slice none 0 0, .slice none 0 0] 24 (0, 0))) := Lib.hid (by rw [hu, ← hg]; exact heap_alloc_new u3 _)
              have z4 : w5.heap.size ≤ u4.heap.size := S4.out.size
              rw [← hu] at hHeld ⊢
              rw [hg]
              clear hu hg
              (refine wpAnyH_ready (rs := [9]) (by kernel_rfl) (by simp) ?_; refine AllReadyH.cons (o := _) rfl (fun K hK => ?_) AllReadyH.nil)
              refine step_appR (by simp [Region.wanted, yielded]) (.tmp 77) (.tmp 79) 22 rfl Tryd.underlying22 info_str rfl w5.heap.size (.slice (some ⟨gb, 0, none⟩) 0 0) 0 _ A2 h c2 (sv PT) (sv_cells _) rfl rfl RW4.out.swap.oa.row (RB.out.below (S4.out)) (by rw [sv_len, pl.out]) z4 (by omega) (by omega) ?_
              intro Ab cb u5 hown hg hl hb
              have hown2 : u5.ownsRow w5.heap.size 9 1 (.slice Ab h cb) h (sv PT) := by have t := hown; rw [Nat.zero_add] at t; exact t
              have hl2 : ∀ g, (Value.slice Ab h cb).ownBlock = some g → _ := fun g e => hl g (by rw [Nat.zero_add]; exact e)
              have S5 : Hid (Below w5.heap.size w5 u5) := Lib.hid (S4.out.trans hb)
              have RW5 : Hid (R3 u5 w5.heap.size (.slice Aa 18 ca) (.slice Ab h cb) (.slice none 0 0) SG PT []) := Lib.hid ((R3.grow RW4.out.swap (X' := PT) ⟨h, by rw [pl.out], hown2⟩ hg hl2).swap)
              have E5 : Hid (u5.heap[e5]? = some (.cells #[.int .i64 0, .slice none 0 0, .slice none 0 0] 24 (0, 0))) := Lib.hid (blk_keep hg RW4.out.swap.oa.row E4.out t24)
              have z5 : w5.heap.size ≤ u5.heap.size := S5.out.size
              (refine hK.out _ _ S5.out (fun hHeld2 => ?_); clear hK K hHeld; have hHeld := hHeld2; clear hHeld2; try simp only [Act.put, List.getElem_toArray, List.getElem_cons_zero, List.getElem_cons_succ, List.setIfInBounds_toArray, List.set_cons_zero, List.set_cons_succ])
              simp only [Nat.zero_add]
              clear hown hown2 hg hl hl2 hb
              (refine wpAnyH_take (i := 10) (oi := _) (v := ?_) rfl (by kernel_rfl) (by kernel_rfl) (by kernel_rfl) (fun _ _ _ h => h) (Or.inl ⟨?_, ?_⟩) (by assumption) ?_; rotate_left; (focus (first | rfl | (simp [Region.wanted, yielded]; done))); (focus (intro w hSw; (try dsimp only at hSw); go_simp; all_goals (with_reducible rfl))); try simp only [Act.put, List.getElem_toArray, List.getElem_cons_zero, List.getElem_cons_succ, List.setIfInBounds_toArray, List.set_cons_zero, List.set_cons_succ])
              obtain ⟨y0, y1, y2⟩ := cells3 E5.out
              have f0 := free_blk E5.out 0
              have f1 := free_blk E5.out 1
              have f2 := free_blk E5.out 2
              (refine wpAnyH_ready (rs := [12]) (by kernel_rfl) (by simp) ?_; refine AllReadyH.cons (o := _) rfl (fun K hK => ?_) AllReadyH.nil; go_simp)
              (refine hK.out _ _ (Below.setCell (Below.setCell (Below.setCell S5.out (p := ⟨e5, 0, none⟩) ze _) (p := ⟨e5, 1, none⟩) ze _) (p := ⟨e5, 2, none⟩) ze _) (fun hHeld2 => ?_); clear hK K hHeld; have hHeld := hHeld2; clear hHeld2; try simp only [Act.put, List.getElem_toArray, List.getElem_cons_zero, List.getElem_cons_succ, List.setIfInBounds_toArray, List.set_cons_zero, List.set_cons_succ])
              (refine wpAnyH_done (by kernel_rfl) ?_ _; refine NoPanic.normal ?_)
              clear hHeld y0 y1 y2 f0 f1 f2
              go_wp2_with fail
              go_meet
              exact ⟨e5, ca, cb, Aa, Ab, rfl, Lib.hid (row_put (row_put (row_put E5.out _) _) _), Lib.hid (((RW5.out.set_ E5.out t24 0 _).set_ (row_put E5.out _) t24 1 _).set_ (row_put (row_put E5.out _) _) t24 2 _), Lib.hid (Below.setCell (Below.setCell (Below.setCell S5.out (p := ⟨e5, 0, none⟩) ze _) (p := ⟨e5, 1, none⟩) ze _) (p := ⟨e5, 2, none⟩) ze _), Lib.hid ze⟩
          · skip
            go_simp
            (refine hK.out _ _ (Below.alloc hHeld z2 _) (fun hHeld2 => ?_); clear hK K hHeld; have hHeld := hHeld2; clear hHeld2; try simp only [Act.put, List.getElem_toArray, List.getElem_cons_zero, List.getElem_cons_succ, List.setIfInBounds_toArray, List.set_cons_zero, List.set_cons_succ])
            obtain ⟨e5, hg⟩ : ∃ g, u2.heap.size = g := ⟨_, rfl⟩
            have ze : w5.heap.size ≤ e5 := by rw [← hg]; exact z2
            obtain ⟨u3, hu⟩ : ∃ x, x = u2.alloc (.cells #[.int .i64 0, .slice none 0 0, .slice none 0 0] 24) := ⟨_, rfl⟩
            have RW3 : Hid (R3 u3 w5.heap.size (.slice Aa 18 ca) (.slice none 0 0) (.slice none 0 0) SG [] []) := Lib.hid (by rw [hu]; exact RW2.out.alloc _)
            have S3 : Hid (Below w5.heap.size w5 u3) := Lib.hid (by rw [hu]; exact S2.out.alloc z2 _)
            have E3 : Hid (u3.heap[e5]? = some (.cells #[.int .i64 0, .slice none 0 0, .slice none 0 0] 24 (0, 0))) := Lib.hid (by rw [hu, ← hg]; exact heap_alloc_new u2 _)
            have z3 : w5.heap.size ≤ u3.heap.size := S3.out.size
            rw [← hu] at hHeld ⊢
            rw [hg]
            clear hu hg
            (refine wpAnyH_ready (rs := [6]) (by kernel_rfl) (by simp) ?_; refine AllReadyH.cons (o := _) rfl (fun K hK => ?_) AllReadyH.nil)
            go_simp
            (refine hK.out _ _ (Below.alloc hHeld z3 _) (fun hHeld2 => ?_); clear hK K hHeld; have hHeld := hHeld2; clear hHeld2; try simp only [Act.put, List.getElem_toArray, List.getElem_cons_zero, List.getElem_cons_succ, List.setIfInBounds_toArray, List.set_cons_zero, List.set_cons_succ])
            obtain ⟨gb, hg⟩ : ∃ g, u3.heap.size = g := ⟨_, rfl⟩
            obtain ⟨u4, hu⟩ : ∃ x, x = u3.alloc (.cells #[] 9) := ⟨_, rfl⟩
            have RW4 : Hid (R3 u4 w5.heap.size (.slice Aa 18 ca) (.slice (some ⟨gb, 0, none⟩) 0 0) (.slice none 0 0) SG [] []) := Lib.hid (by rw [hu, ← hg]; exact (R3.fresh RW3.out.swap z3).swap)
            have S4 : Hid (Below w5.heap.size w5 u4) := Lib.hid (by rw [hu]; exact S3.out.alloc z3 _)
            have E4 : Hid (u4.heap[e5]? = some (.cells #[.int .i64 0, .slice none 0 0, .slice none 0 0] 24 (0, 0))) := Lib.hid (by rw [hu]; exact (alloc_old _ _ (lt_of_block E3.out)).trans E3.out)
            have z4 : w5.heap.size ≤ u4.heap.size := S4.out.size
            rw [← hu] at hHeld ⊢
            rw [hg]
            clear hu hg
            (refine wpAnyH_ready (rs := [9]) (by kernel_rfl) (by simp) ?_; refine AllReadyH.cons (o := _) rfl (fun K hK => ?_) AllReadyH.nil)
            refine step_appR (by simp [Region.wanted, yielded]) (.tmp 77) (.tmp 79) 22 rfl Tryd.underlying22 info_str rfl w5.heap.size (.slice (some ⟨gb, 0, none⟩) 0 0) 0 _ A2 h c2 (sv PT) (sv_cells _) rfl rfl RW4.out.swap.oa.row (RB.out.below (S4.out)) (by rw [sv_len, pl.out]) z4 (by omega) (by omega) ?_
            intro Ab cb u5 hown hg hl hb
            have hown2 : u5.ownsRow w5.heap.size 9 1 (.slice Ab h cb) h (sv PT) := by have t := hown; rw [Nat.zero_add] at t; exact t
            have hl2 : ∀ g, (Value.slice Ab h cb).ownBlock = some g → _ := fun g e => hl g (by rw [Nat.zero_add]; exact e)
            have S5 : Hid (Below w5.heap.size w5 u5) := Lib.hid (S4.out.trans hb)
            have RW5 : Hid (R3 u5 w5.heap.size (.slice Aa 18 ca) (.slice Ab h cb) (.slice none 0 0) SG PT []) := Lib.hid ((R3.grow RW4.out.swap (X' := PT) ⟨h, by rw [pl.out], hown2⟩ hg hl2).swap)
            have E5 : Hid (u5.heap[e5]? = some (.cells #[.int .i64 0, .slice none 0 0, .slice none 0 0] 24 (0, 0))) := Lib.hid (blk_keep hg RW4.out.swap.oa.row E4.out t24)
            have z5 : w5.heap.size ≤ u5.heap.size := S5.out.size
            (refine hK.out _ _ S5.out (fun hHeld2 => ?_); clear hK K hHeld; have hHeld := hHeld2; clear hHeld2; try simp only [Act.put, List.getElem_toArray, List.getElem_cons_zero, List.getElem_cons_succ, List.setIfInBounds_toArray, List.set_cons_zero, List.set_cons_succ])
            simp only [Nat.zero_add]
            clear hown hown2 hg hl hl2 hb
            (refine wpAnyH_take (i := 10) (oi := _) (v := ?_) rfl (by kernel_rfl) (by kernel_rfl) (by kernel_rfl) (fun _ _ _ h => h) (Or.inl ⟨?_, ?_⟩) (by assumption) ?_; rotate_left; (focus (first | rfl | (simp [Region.wanted, yielded]; done))); (focus (intro w hSw; (try dsimp only at hSw); go_simp; all_goals (with_reducible rfl))); try simp only [Act.put, List.getElem_toArray, List.getElem_cons_zero, List.getElem_cons_succ, List.setIfInBounds_toArray, List.set_cons_zero, List.set_cons_succ])
            obtain ⟨y0, y1, y2⟩ := cells3 E5.out
            have f0 := free_blk E5.out 0
            have f1 := free_blk E5.out 1
            have f2 := free_blk E5.out 2
            (refine wpAnyH_ready (rs := [12]) (by kernel_rfl) (by simp) ?_; refine AllReadyH.cons (o := _) rfl (fun K hK => ?_) AllReadyH.nil; go_simp)
            (refine hK.out _ _ (Below.setCell (Below.setCell (Below.setCell S5.out (p := ⟨e5, 0, none⟩) ze _) (p := ⟨e5, 1, none⟩) ze _) (p := ⟨e5, 2, none⟩) ze _) (fun hHeld2 => ?_); clear hK K hHeld; have hHeld := hHeld2; clear hHeld2; try simp only [Act.put, List.getElem_toArray, List.getElem_cons_zero, List.getElem_cons_succ, List.setIfInBounds_toArray, List.set_cons_zero, List.set_cons_succ])
            (refine wpAnyH_done (by kernel_rfl) ?_ _; refine NoPanic.normal ?_)
            clear hHeld y0 y1 y2 f0 f1 f2
            go_wp2_with fail
            go_meet
            exact ⟨e5, ca, cb, Aa, Ab, rfl, Lib.hid (row_put (row_put (row_put E5.out _) _) _), Lib.hid (((RW5.out.set_ E5.out t24 0 _).set_ (row_put E5.out _) t24 1 _).set_ (row_put (row_put E5.out _) _) t24 2 _), Lib.hid (Below.setCell (Below.setCell (Below.setCell S5.out (p := ⟨e5, 0, none⟩) ze _) (p := ⟨e5, 1, none⟩) ze _) (p := ⟨e5, 2, none⟩) ze _), Lib.hid ze⟩
        · skip
          go_simp
          (refine hK.out _ _ (Below.alloc hHeld z1 _) (fun hHeld2 => ?_); clear hK K hHeld; have hHeld := hHeld2; clear hHeld2; try simp only [Act.put, List.getElem_toArray, List.getElem_cons_zero, List.getElem_cons_succ, List.setIfInBounds_toArray, List.set_cons_zero, List.set_cons_succ])
          obtain ⟨gb, hg⟩ : ∃ g, u1.heap.size = g := ⟨_, rfl⟩
          obtain ⟨u2, hu⟩ : ∃ x, x = u1.alloc (.cells #[] 9) := ⟨_, rfl⟩
          have RW2 : Hid (R3 u2 w5.heap.size (.slice (some ⟨ga, 0, none⟩) 0 0) (.slice (some ⟨gb, 0, none⟩) 0 0) (.slice none 0 0) [] [] []) := Lib.hid (by rw [hu, ← hg]; exact (R3.fresh RW1.out.swap z1).swap)
          have S2 : Hid (Below w5.heap.size w5 u2) := Lib.hid (by rw [hu]; exact S1.out.alloc z1 _)
          have z2 : w5.heap.size ≤ u2.heap.size := S2.out.size
          rw [← hu] at hHeld ⊢
          rw [hg]
          clear hu hg
          (refine wpAnyH_ready (rs := [5, 11]) (by kernel_rfl) (by simp) ?_; refine AllReadyH.cons (o := _) rfl (fun K hK => ?_) (AllReadyH.cons (o := _) rfl (fun K hK => ?_) AllReadyH.nil))
          · skip
            refine step_appR (by simp [Region.wanted, yielded]) (.tmp 73) (.tmp 75) 22 rfl Tryd.underlying22 info_str rfl w5.heap.size (.slice (some ⟨ga, 0, none⟩) 0 0) 0 _ A1 18 c1 (sv SG) (sv_cells _) rfl rfl RW2.out.oa.row (RA.out.below (S2.out)) (by rw [sv_len, sl.out]) z2 (by omega) (by omega) ?_
            intro Aa ca u3 hown hg hl hb
            have hown2 : u3.ownsRow w5.heap.size 9 1 (.slice Aa 18 ca) 18 (sv SG) := by have t := hown; rw [Nat.zero_add] at t; exact t
            have hl2 : ∀ g, (Value.slice Aa 18 ca).ownBlock = some g → _ := fun g e => hl g (by rw [Nat.zero_add]; exact e)
            have S3 : Hid (Below w5.heap.size w5 u3) := Lib.hid (S2.out.trans hb)
            have RW3 : Hid (R3 u3 w5.heap.size (.slice Aa 18 ca) (.slice (some ⟨gb, 0, none⟩) 0 0) (.slice none 0 0) SG [] []) := Lib.hid (R3.grow RW2.out (X' := SG) ⟨18, by rw [sl.out], hown2⟩ hg hl2)
            have z3 : w5.heap.size ≤ u3.heap.size := S3.out.size
            (refine hK.out _ _ S3.out (fun hHeld2 => ?_); clear hK K hHeld; have hHeld := hHeld2; clear hHeld2; try simp only [Act.put, List.getElem_toArray, List.getElem_cons_zero, List.getElem_cons_succ, List.setIfInBounds_toArray, List.set_cons_zero, List.set_cons_succ])
            simp only [Nat.zero_add]
            clear hown hown2 hg hl hl2 hb
            (refine wpAnyH_ready (rs := [9, 11]) (by kernel_rfl) (by simp) ?_; refine AllReadyH.cons (o := _) rfl (fun K hK => ?_) (AllReadyH.cons (o := _) rfl (fun K hK => ?_) AllReadyH.nil))
            · skip
              refine step_appR (by simp [Region.wanted, yielded]) (.tmp 77) (.tmp 79) 22 rfl Tryd.underlying22 info_str rfl w5.heap.size (.slice (some ⟨gb, 0, none⟩) 0 0) 0 _ A2 h c2 (sv PT) (sv_cells _) rfl rfl RW3.out.swap.oa.row (RB.out.below (S3.out)) (by rw [sv_len, pl.out]) z3 (by omega) (by omega) ?_
              intro Ab cb u4 hown hg hl hb
              have hown2 : u4.ownsRow w5.heap.size 9 1 (.slice Ab h cb) h (sv PT) := by have t := hown; rw [Nat.zero_add] at t; exact t
              have hl2 : ∀ g, (Value.slice Ab h cb).ownBlock = some g → _ := fun g e => hl g (by rw [Nat.zero_add]; exact e)
              have S4 : Hid (Below w5.heap.size w5 u4) := Lib.hid (S3.out.trans hb)
              have RW4 : Hid (R3 u4 w5.heap.size (.slice Aa 18 ca) (.slice Ab h cb) (.slice none 0 0) SG PT []) := Lib.hid ((R3.grow RW3.out.swap (X' := PT) ⟨h, by rw [pl.out], hown2⟩ hg hl2).swap)
              have z4 : w5.heap.size ≤ u4.heap.size := S4.out.size
              (refine hK.out _ _ S4.out (fun hHeld2 => ?_); clear hK K hHeld; have hHeld := hHeld2; clear hHeld2; try simp only [Act.put, List.getElem_toArray, List.getElem_cons_zero, List.getElem_cons_succ, List.setIfInBounds_toArray, List.set_cons_zero, List.set_cons_succ])
              simp only [Nat.zero_add]
              clear hown hown2 hg hl hl2 hb
              (refine wpAnyH_take (i := 10) (oi := _) (v := ?_) rfl (by kernel_rfl) (by kernel_rfl) (by kernel_rfl) (fun _ _ _ h => h) (Or.inl ⟨?_, ?_⟩) (by assumption) ?_; rotate_left; (focus (first | rfl | (simp [Region.wanted, yielded]; done))); (focus (intro w hSw; (try dsimp only at hSw); go_simp; all_goals (with_reducible rfl))); try simp only [Act.put, List.getElem_toArray, List.getElem_cons_zero, List.getElem_cons_succ, List.setIfInBounds_toArray, List.set_cons_zero, List.set_cons_succ])
              (refine wpAnyH_ready (rs := [11]) (by kernel_rfl) (by simp) ?_; refine AllReadyH.cons (o := _) rfl (fun K hK => ?_) AllReadyH.nil)
              go_simp
              (refine hK.out _ _ (Below.alloc hHeld z4 _) (fun hHeld2 => ?_); clear hK K hHeld; have hHeld := hHeld2; clear hHeld2; try simp only [Act.put, List.getElem_toArray, List.getElem_cons_zero, List.getElem_cons_succ, List.setIfInBounds_toArray, List.set_cons_zero, List.set_cons_succ])
              obtain ⟨e5, hg⟩ : ∃ g, u4.heap.size = g := ⟨_, rfl⟩
              have ze : w5.heap.size ≤ e5 := by rw [← hg]; exact z4
              obtain ⟨u5, hu⟩ : ∃ x, x = u4.alloc (.cells #[.int .i64 0, .slice none 0 0, .slice none 0 0] 24) := ⟨_, rfl⟩
              have RW5 : Hid (R3 u5 w5.heap.size (.slice Aa 18 ca) (.slice Ab h cb) (.slice none 0 0) SG PT []) := Lib.hid (by rw [hu]; exact RW4.out.alloc _)
              have S5 : Hid (Below w5.heap.size w5 u5) := Lib.hid (by rw [hu]; exact S4.out.alloc z4 _)
              have E5 : Hid (u5.heap[e5]? = some (.cells #[.int .i64 0, .slice none 0 0, .slice none 0 0] 24 (0, 0))) := Lib.hid (by rw [hu, ← hg]; exact heap_alloc_new u4 _)
              have z5 : w5.heap.size ≤ u5.heap.size := S5.out.size
              rw [← hu] at hHeld ⊢
              rw [hg]
              clear hu hg
              obtain ⟨y0, y1, y2⟩ := cells3 E5.out
              have f0 := free_blk E5.out 0
              have f1 := free_blk E5.out 1
              have f2 := free_blk E5.out 2
              (refine wpAnyH_ready (rs := [12]) (by kernel_rfl) (by simp) ?_; refine AllReadyH.cons (o := _) rfl (fun K hK => ?_) AllReadyH.nil; go_simp)
              (refine hK.out _ _ (Below.setCell (Below.setCell (Below.setCell S5.out (p := ⟨e5, 0, none⟩) ze _) (p := ⟨e5, 1, none⟩) ze _) (p := ⟨e5, 2, none⟩) ze _) (fun hHeld2 => ?_); clear hK K hHeld; have hHeld := hHeld2; clear hHeld2; try simp only [Act.put, List.getElem_toArray, List.getElem_cons_zero, List.getElem_cons_succ, List.setIfInBounds_toArray, List.set_cons_zero, List.set_cons_succ])
              (refine wpAnyH_done (by kernel_rfl) ?_ _; refine NoPanic.normal ?_)
              clear hHeld y0 y1 y2 f0 f1 f2
              go_wp2_with fail
              go_meet
              exact ⟨e5, ca, cb, Aa, Ab, rfl, Lib.hid (row_put (row_put (row_put E5.out _) _) _), Lib.hid (((RW5.out.set_ E5.out t24 0 _).set_ (row_put E5.out _) t24 1 _).set_ (row_put (row_put E5.out _) _) t24 2 _), Lib.hid (Below.setCell (Below.setCell (Below.setCell S5.out (p := ⟨e5, 0, none⟩) ze _) (p := ⟨e5, 1, none⟩) ze _) (p := ⟨e5, 2, none⟩) ze _), Lib.hid ze⟩
            · skip
              go_simp
              (refine hK.out _ _ (Below.alloc hHeld z3 _) (fun hHeld2 => ?_); clear hK K hHeld; have hHeld := hHeld2; clear hHeld2; try simp only [Act.put, List.getElem_toArray, List.getElem_cons_zero, List.getElem_cons_succ, List.setIfInBounds_toArray, List.set_cons_zero, List.set_cons_succ])
              obtain ⟨e5, hg⟩ : ∃ g, u3.heap.size = g := ⟨_, rfl⟩
              have ze : w5.heap.size ≤ e5 := by rw [← hg]; exact z3
              obtain ⟨u4, hu⟩ : ∃ x, x = u3.alloc (.cells #[.int .i64 0, .slice none 0 0, .slice none 0 0] 24) := ⟨_, rfl⟩
              have RW4 : Hid (R3 u4 w5.heap.size (.slice Aa 18 ca) (.slice (some ⟨gb, 0, none⟩) 0 0) (.slice none 0 0) SG [] []) := Lib.hid (by rw [hu]; exact RW3.out.alloc _)
              have S4 : Hid (Below w5.heap.size w5 u4) := Lib.hid (by rw [hu]; exact S3.out.alloc z3 _)
              have E4 : Hid (u4.heap[e5]? = some (.cells #[.int .i64 0, .slice none 0 0, .slice none 0 0] 24 (0, 0))) := Lib.hid (by rw [hu, ← hg]; exact heap_alloc_new u3 _)
              have z4 : w5.heap.size ≤ u4.heap.size := S4.out.size
              rw [← hu] at hHeld ⊢
              rw [hg]
              clear hu hg
              (refine wpAnyH_ready (rs := [9]) (by kernel_rfl) (by simp) ?_; refine AllReadyH.cons (o := _) rfl (fun K hK => ?_) AllReadyH.nil)
              refine step_appR (by simp [Region.wanted, yielded]) (.tmp 77) (.tmp 79) 22 rfl Tryd.underlying22 info_str rfl w5.heap.size (.slice (some ⟨gb, 0, none⟩) 0 0) 0 _ A2 h c2 (sv PT) (sv_cells _) rfl rfl RW4.out.swap.oa.row (RB.out.below (S4.out)) (by rw [sv_len, pl.out]) z4 (by omega) (by omega) ?_
              intro Ab cb u5 hown hg hl hb
              have hown2 : u5.ownsRow w5.heap.size 9 1 (.slice Ab h cb) h (sv PT) := by have t := hown; rw [Nat.zero_add] at t; exact t
              have hl2 : ∀ g, (Value.slice Ab h cb).ownBlock = some g → _ := fun g e => hl g (by rw [Nat.zero_add]; exact e)
              have S5 : Hid (Below w5.heap.size w5 u5) := Lib.hid (S4.out.trans hb)
              have RW5 : Hid (R3 u5 w5.heap.size (.slice Aa 18 ca) (.slice Ab h cb) (.slice none 0 0) SG PT []) := Lib.hid ((R3.grow RW4.out.swap (X' := PT) ⟨h, by rw [pl.out], hown2⟩ hg hl2).swap)
              have E5 : Hid (u5.heap[e5]? = some (.cells #[.int .i64 0, .slice none 0 0, .slice none 0 0] 24 (0, 0))) := Lib.hid (blk_keep hg RW4.out.swap.oa.row E4.out t24)
              have z5 : w5.heap.size ≤ u5.heap.size := S5.out.size
              (refine hK.out _ _ S5.out (fun hHeld2 => ?_); clear hK K hHeld; have hHeld := hHeld2; clear hHeld2; try simp only [Act.put, List.getElem_toArray, List.getElem_cons_zero, List.getElem_cons_succ, List.setIfInBounds_toArray, List.set_cons_zero, List.set_cons_succ])
              simp only [Nat.zero_add]
              clear hown hown2 hg hl hl2 hb
              (refine wpAnyH_take (i := 10) (oi := _) (v := ?_) rfl (by kernel_rfl) (by kernel_rfl) (by kernel_rfl) (fun _ _ _ h => h) (Or.inl ⟨?_, ?_⟩) (by assumption) ?_; rotate_left; (focus (first | rfl | (simp [Region.wanted, yielded]; done))); (focus (intro w hSw; (try dsimp only at hSw); go_simp; all_goals (with_reducible rfl))); try simp only [Act.put, List.getElem_toArray, List.getElem_cons_zero, List.getElem_cons_succ, List.setIfInBounds_toArray, List.set_cons_zero, List.set_cons_succ])
              obtain ⟨y0, y1, y2⟩ := cells3 E5.out
              have f0 := free_blk E5.out 0
              have f1 := free_blk E5.out 1
              have f2 := free_blk E5.out 2
              (refine wpAnyH_ready (rs := [12]) (by kernel_rfl) (by simp) ?_; refine AllReadyH.cons (o := _) rfl (fun K hK => ?_) AllReadyH.nil; go_simp)
              (refine hK.out _ _ (Below.setCell (Below.setCell (Below.setCell S5.out (p := ⟨e5, 0, none⟩) ze _) (p := ⟨e5, 1, none⟩) ze _) (p := ⟨e5, 2, none⟩) ze _) (fun hHeld2 => ?_); clear hK K hHeld; have hHeld := hHeld2; clear hHeld2; try simp only [Act.put, List.getElem_toArray, List.getElem_cons_zero, List.getElem_cons_succ, List.setIfInBounds_toArray, List.set_cons_zero, List.set_cons_succ])
              (refine wpAnyH_done (by kernel_rfl) ?_ _; refine NoPanic.normal ?_)
              clear hHeld y0 y1 y2 f0 f1 f2
              go_wp2_with fail
              go_meet
              exact ⟨e5, ca, cb, Aa, Ab, rfl, Lib.hid (row_put (row_put (row_put E5.out _) _) _), Lib.hid (((RW5.out.set_ E5.out t24 0 _).set_ (row_put E5.out _) t24 1 _).set_ (row_put (row_put E5.out _) _) t24 2 _), Lib.hid (Below.setCell (Below.setCell (Below.setCell S5.out (p := ⟨e5, 0, none⟩) ze _) (p := ⟨e5, 1, none⟩) ze _) (p := ⟨e5, 2, none⟩) ze _), Lib.hid ze⟩
          · skip
            go_simp
            (refine hK.out _ _ (Below.alloc hHeld z2 _) (fun hHeld2 => ?_); clear hK K hHeld; have hHeld := hHeld2; clear hHeld2; try simp only [Act.put, List.getElem_toArray, List.getElem_cons_zero, List.getElem_cons_succ, List.setIfInBounds_toArray, List.set_cons_zero, List.set_cons_succ])
            obtain ⟨e5, hg⟩ : ∃ g, u2.heap.size = g := ⟨_, rfl⟩
            have ze : w5.heap.size ≤ e5 := by rw [← hg]; exact z2
            obtain ⟨u3, hu⟩ : ∃ x, x = u2.alloc (.cells #[.int .i64 0, .slice none 0 0, .slice none 0 0] 24) := ⟨_, rfl⟩
            have RW3 : Hid (R3 u3 w5.heap.size (.slice (some ⟨ga, 0, none⟩) 0 0) (.slice (some ⟨gb, 0, none⟩) 0 0) (.slice none 0 0) [] [] []) := Lib.hid (by rw [hu]; exact RW2.out.alloc _)
            have S3 : Hid (Below w5.heap.size w5 u3) := Lib.hid (by rw [hu]; exact S2.out.alloc z2 _)
            have E3 : Hid (u3.heap[e5]? = some (.cells #[.int .i64 0, .slice none 0 0, .slice none 0 0] 24 (0, 0))) := Lib.hid (by rw [hu, ← hg]; exact heap_alloc_new u2 _)
            have z3 : w5.heap.size ≤ u3.heap.size := S3.out.size
            rw [← hu] at hHeld ⊢
            rw [hg]
            clear hu hg
            (refine wpAnyH_ready (rs := [5]) (by kernel_rfl) (by simp) ?_; refine AllReadyH.cons (o := _) rfl (fun K hK => ?_) AllReadyH.nil)
            refine step_appR (by simp [Region.wanted, yielded]) (.tmp 73) (.tmp 75) 22 rfl Tryd.underlying22 info_str rfl w5.heap.size (.slice (some ⟨ga, 0, none⟩) 0 0) 0 _ A1 18 c1 (sv SG) (sv_cells _) rfl rfl RW3.out.oa.row (RA.out.below (S3.out)) (by rw [sv_len, sl.out]) z3 (by omega) (by omega) ?_
            intro Aa ca u4 hown hg hl hb
            have hown2 : u4.ownsRow w5.heap.size 9 1 (.slice Aa 18 ca) 18 (sv SG) := by have t := hown; rw [Nat.zero_add] at t; exact t
            have hl2 : ∀ g, (Value.slice Aa 18 ca).ownBlock = some g → _ := fun g e => hl g (by rw [Nat.zero_add]; exact e)
            have S4 : Hid (Below w5.heap.size w5 u4) := Lib.hid (S3.out.trans hb)
            have RW4 : Hid (R3 u4 w5.heap.size (.slice Aa 18 ca) (.slice (some ⟨gb, 0, none⟩) 0 0) (.slice none 0 0) SG [] []) := Lib.hid (R3.grow RW3.out (X' := SG) ⟨18, by rw [sl.out], hown2⟩ hg hl2)
            have E4 : Hid (u4.heap[e5]? = some (.cells #[.int .i64 0, .slice none 0 0, .slice none 0 0] 24 (0, 0))) := Lib.hid (blk_keep hg RW3.out.oa.row E3.out t24)
            have z4 : w5.heap.size ≤ u4.heap.size := S4.out.size
            (refine hK.out _ _ S4.out (fun hHeld2 => ?_); clear hK K hHeld; have hHeld := hHeld2; clear hHeld2; try simp only [Act.put, List.getElem_toArray, List.getElem_cons_zero, List.getElem_cons_succ, List.setIfInBounds_toArray, List.set_cons_zero, List.set_cons_succ])
            simp only [Nat.zero_add]
            clear hown hown2 hg hl hl2 hb
            (refine wpAnyH_ready (rs := [9]) (by kernel_rfl) (by simp) ?_; refine AllReadyH.cons (o := _) rfl (fun K hK => ?_) AllReadyH.nil)
            refine step_appR (by simp [Region.wanted, yielded]) (.tmp 77) (.tmp 79) 22 rfl Tryd.underlying22 info_str rfl w5.heap.size (.slice (some ⟨gb, 0, none⟩) 0 0) 0 _ A2 h c2 (sv PT) (sv_cells _) rfl rfl RW4.out.swap.oa.row (RB.out.below (S4.out)) (by rw [sv_len, pl.out]) z4 (by omega) (by omega) ?_
            intro Ab cb u5 hown hg hl hb
            have hown2 : u5.ownsRow w5.heap.size 9 1 (.slice Ab h cb) h (sv PT) := by have t := hown; rw [Nat.zero_add] at t; exact t
            have hl2 : ∀ g, (Value.slice Ab h cb).ownBlock = some g → _ := fun g e => hl g (by rw [Nat.zero_add]; exact e)
            have S5 : Hid (Below w5.heap.size w5 u5) := Lib.hid (S4.out.trans hb)
            have RW5 : Hid (R3 u5 w5.heap.size (.slice Aa 18 ca) (.slice Ab h cb) (.slice none 0 0) SG PT []) := Lib.hid ((R3.grow RW4.out.swap (X' := PT) ⟨h, by rw [pl.out], hown2⟩ hg hl2).swap)
            have E5 : Hid (u5.heap[e5]? = some (.cells #[.int .i64 0, .slice none 0 0, .slice none 0 0] 24 (0, 0))) := Lib.hid (blk_keep hg RW4.out.swap.oa.row E4.out t24)
            have z5 : w5.heap.size ≤ u5.heap.size := S5.out.size
            (refine hK.out _ _ S5.out (fun hHeld2 => ?_); clear hK K hHeld; have hHeld := hHeld2; clear hHeld2; try simp only [Act.put, List.getElem_toArray, List.getElem_cons_zero, List.getElem_cons_succ, List.setIfInBounds_toArray, List.set_cons_zero, List.set_cons_succ])
            simp only [Nat.zero_add]
            clear hown hown2 hg hl hl2 hb
            (refine wpAnyH_take (i := 10) (oi := _) (v := ?_) rfl (by kernel_rfl) (by kernel_rfl) (by kernel_rfl) (fun _ _ _ h => h) (Or.inl ⟨?_, ?_⟩) (by assumption) ?_; rotate_left; (focus (first | rfl | (simp [Region.wanted, yielded]; done))); (focus (intro w hSw; (try dsimp only at hSw); go_simp; all_goals (with_reducible rfl))); try simp only [Act.put, List.getElem_toArray, List.getElem_cons_zero, List.getElem_cons_succ, List.setIfInBounds_toArray, List.set_cons_zero, List.set_cons_succ])
            obtain ⟨y0, y1, y2⟩ := cells3 E5.out
            have f0 := free_blk E5.out 0
            have f1 := free_blk E5.out 1
            have f2 := free_blk E5.out 2
            (refine wpAnyH_ready (rs := [12]) (by kernel_rfl) (by simp) ?_; refine AllReadyH.cons (o := _) rfl (fun K hK => ?_) AllReadyH.nil; go_simp)
            (refine hK.out _ _ (Below.setCell (Below.setCell (Below.setCell S5.out (p := ⟨e5, 0, none⟩) ze _) (p := ⟨e5, 1, none⟩) ze _) (p := ⟨e5, 2, none⟩) ze _) (fun hHeld2 => ?_); clear hK K hHeld; have hHeld := hHeld2; clear hHeld2; try simp only [Act.put, List.getElem_toArray, List.getElem_cons_zero, List.getElem_cons_succ, List.setIfInBounds_toArray, List.set_cons_zero, List.set_cons_succ])
            (refine wpAnyH_done (by kernel_rfl) ?_ _; refine NoPanic.normal ?_)
            clear hHeld y0 y1 y2 f0 f1 f2
            go_wp2_with fail
            go_meet
            exact ⟨e5, ca, cb, Aa, Ab, rfl, Lib.hid (row_put (row_put (row_put E5.out _) _) _), Lib.hid (((RW5.out.set_ E5.out t24 0 _).set_ (row_put E5.out _) t24 1 _).set_ (row_put (row_put E5.out _) _) t24 2 _), Lib.hid (Below.setCell (Below.setCell (Below.setCell S5.out (p := ⟨e5, 0, none⟩) ze _) (p := ⟨e5, 1, none⟩) ze _) (p := ⟨e5, 2, none⟩) ze _), Lib.hid ze⟩
        · skip
          go_simp
          (refine hK.out _ _ (Below.alloc hHeld z1 _) (fun hHeld2 => ?_); clear hK K hHeld; have hHeld := hHeld2; clear hHeld2; try simp only [Act.put, List.getElem_toArray, List.getElem_cons_zero, List.getElem_cons_succ, List.setIfInBounds_toArray, List.set_cons_zero, List.set_cons_succ])
          obtain ⟨e5, hg⟩ : ∃ g, u1.heap.size = g := ⟨_, rfl⟩
          have ze : w5.heap.size ≤ e5 := by rw [← hg]; exact z1
          obtain ⟨u2, hu⟩ : ∃ x, x = u1.alloc (.cells #[.int .i64 0, .slice none 0 0, .slice none 0 0] 24) := ⟨_, rfl⟩
          have RW2 : Hid (R3 u2 w5.heap.size (.slice (some ⟨ga, 0, none⟩) 0 0) (.slice none 0 0) (.slice none 0 0) [] [] []) := Lib.hid (by rw [hu]; exact RW1.out.alloc _)
          have S2 : Hid (Below w5.heap.size w5 u2) := Lib.hid (by rw [hu]; exact S1.out.alloc z1 _)
          have E2 : Hid (u2.heap[e5]? = some (.cells #[.int .i64 0, .slice none 0 0, .slice none 0 0] 24 (0, 0))) := Lib.hid (by rw [hu, ← hg]; exact heap_alloc_new u1 _)
          have z2 : w5.heap.size ≤ u2.heap.size := S2.out.size
          rw [← hu] at hHeld ⊢
          rw [hg]
          clear hu hg
          (refine wpAnyH_ready (rs := [5, 6]) (by kernel_rfl) (by simp) ?_; refine AllReadyH.cons (o := _) rfl (fun K hK => ?_) (AllReadyH.cons (o := _) rfl (fun K hK => ?_) AllReadyH.nil))
          · skip
            refine step_appR (by simp [Region.wanted, yielded]) (.tmp 73) (.tmp 75) 22 rfl Tryd.underlying22 info_str rfl w5.heap.size (.slice (some ⟨ga, 0, none⟩) 0 0) 0 _ A1 18 c1 (sv SG) (sv_cells _) rfl rfl RW2.out.oa.row (RA.out.below (S2.out)) (by rw [sv_len, sl.out]) z2 (by omega) (by omega) ?_
            intro Aa ca u3 hown hg hl hb
            have hown2 : u3.ownsRow w5.heap.size 9 1 (.slice Aa 18 ca) 18 (sv SG) := by have t := hown; rw [Nat.zero_add] at t; exact t
            have hl2 : ∀ g, (Value.slice Aa 18 ca).ownBlock = some g → _ := fun g e => hl g (by rw [Nat.zero_add]; exact e)
            have S3 : Hid (Below w5.heap.size w5 u3) := Lib.hid (S2.out.trans hb)
            have RW3 : Hid (R3 u3 w5.heap.size (.slice Aa 18 ca) (.slice none 0 0) (.slice none 0 0) SG [] []) := Lib.hid (R3.grow RW2.out (X' := SG) ⟨18, by rw [sl.out], hown2⟩ hg hl2)
            have E3 : Hid (u3.heap[e5]? = some (.cells #[.int .i64 0, .slice none 0 0, .slice none 0 0] 24 (0, 0))) := Lib.hid (blk_keep hg RW2.out.oa.row E2.out t24)
            have z3 : w5.heap.size ≤ u3.heap.size := S3.out.size
            (refine hK.out _ _ S3.out (fun hHeld2 => ?_); clear hK K hHeld; have hHeld := hHeld2; clear hHeld2; try simp only [Act.put, List.getElem_toArray, List.getElem_cons_zero, List.getElem_cons_succ, List.setIfInBounds_toArray, List.set_cons_zero, List.set_cons_succ])
            simp only [Nat.zero_add]
            clear hown hown2 hg hl hl2 hb
            (refine wpAnyH_ready (rs := [6]) (by kernel_rfl) (by simp) ?_; refine AllReadyH.cons (o := _) rfl (fun K hK => ?_) AllReadyH.nil)
            go_simp
            (refine hK.out _ _ (Below.alloc hHeld z3 _) (fun hHeld2 => ?_); clear hK K hHeld; have hHeld := hHeld2; clear hHeld2; try simp only [Act.put, List.getElem_toArray, List.getElem_cons_zero, List.getElem_cons_succ, List.setIfInBounds_toArray, List.set_cons_zero, List.set_cons_succ])
            obtain ⟨gb, hg⟩ : ∃ g, u3.heap.size = g := ⟨_, rfl⟩
            obtain ⟨u4, hu⟩ : ∃ x, x = u3.alloc (.cells #[] 9) := ⟨_, rfl⟩
            have RW4 : Hid (R3 u4 w5.heap.size (.slice Aa 18 ca) (.slice (some ⟨gb, 0, none⟩) 0 0) (.slice none 0 0) SG [] []) := Lib.hid (by rw [hu, ← hg]; exact (R3.fresh RW3.out.swap z3).swap)
            have S4 : Hid (Below w5.heap.size w5 u4) := Lib.hid (by rw [hu]; exact S3.out.alloc z3 _)
            have E4 : Hid (u4.heap[e5]? = some (.cells #[.int .i64 0, .slice none 0 0, .slice none 0 0] 24 (0, 0))) := Lib.hid (by rw [hu]; exact (alloc_old _ _ (lt_of_block E3.out)).trans E3.out)
            have z4 : w5.heap.size ≤ u4.heap.size := S4.out.size
            rw [← hu] at hHeld ⊢
            rw [hg]
            clear hu hg
            (refine wpAnyH_ready (rs := [9]) (by kernel_rfl) (by simp) ?_; refine AllReadyH.cons (o := _) rfl (fun K hK => ?_) AllReadyH.nil)
            refine step_appR (by simp [Region.wanted, yielded]) (.tmp 77) (.tmp 79) 22 rfl Tryd.underlying22 info_str rfl w5.heap.size (.slice (some ⟨gb, 0, none⟩) 0 0) 0 _ A2 h c2 (sv PT) (sv_cells _) rfl rfl RW4.out.swap.oa.row (RB.out.below (S4.out)) (by rw [sv_len, pl.out]) z4 (by omega) (by omega) ?_
            intro Ab cb u5 hown hg hl hb
            have hown2 : u5.ownsRow w5.heap.size 9 1 (.slice Ab h cb) h (sv PT) := by have t := hown; rw [Nat.zero_add] at t; exact t
            have hl2 : ∀ g, (Value.slice Ab h cb).ownBlock = some g → _ := fun g e => hl g (by rw [Nat.zero_add]; exact e)
            have S5 : Hid (Below w5.heap.size w5 u5) := Lib.hid (S4.out.trans hb)
            have RW5 : Hid (R3 u5 w5.heap.size (.slice Aa 18 ca) (.slice Ab h cb) (.slice none 0 0) SG PT []) := Lib.hid ((R3.grow RW4.out.swap (X' := PT) ⟨h, by rw [pl.out], hown2⟩ hg hl2).swap)
            have E5 : Hid (u5.heap[e5]? = some (.cells #[.int .i64 0, .slice none 0 0, .slice none 0 0] 24 (0, 0))) := Lib.hid (blk_keep hg RW4.out.swap.oa.row E4.out t24)
            have z5 : w5.heap.size ≤ u5.heap.size := S5.out.size
            (refine hK.out _ _ S5.out (fun hHeld2 => ?_); clear hK K hHeld; have hHeld := hHeld2; clear hHeld2; try simp only [Act.put, List.getElem_toArray, List.getElem_cons_zero, List.getElem_cons_succ, List.setIfInBounds_toArray, List.set_cons_zero, List.set_cons_succ])
            simp only [Nat.zero_add]
            clear hown hown2 hg hl hl2 hb
            (refine wpAnyH_take (i := 10) (oi := _) (v := ?_) rfl (by kernel_rfl) (by kernel_rfl) (by kernel_rfl) (fun _ _ _ h => h) (Or.inl ⟨?_, ?_⟩) (by assumption) ?_; rotate_left; (focus (first | rfl | (simp [Region.wanted, yielded]; done))); (focus (intro w hSw; (try dsimp only at hSw); go_simp; all_goals (with_reducible rfl))); try simp only [Act.put, List.getElem_toArray, List.getElem_cons_zero, List.getElem_cons_succ, List.setIfInBounds_toArray, List.set_cons_zero, List.set_cons_succ])
            obtain ⟨y0, y1, y2⟩ := cells3 E5.out
            have f0 := free_blk E5.out 0
            have f1 := free_blk E5.out 1
            have f2 := free_blk E5.out 2
            (refine wpAnyH_ready (rs := [12]) (by kernel_rfl) (by simp) ?_; refine AllReadyH.cons (o := _) rfl (fun K hK => ?_) AllReadyH.nil; go_simp)
            (refine hK.out _ _ (Below.setCell (Below.setCell (Below.setCell S5.out (p := ⟨e5, 0, none⟩) ze _) (p := ⟨e5, 1, none⟩) ze _) (p := ⟨e5, 2, none⟩) ze _) (fun hHeld2 => ?_); clear hK K hHeld; have hHeld := hHeld2; clear hHeld2; try simp only [Act.put, List.getElem_toArray, List.getElem_cons_zero, List.getElem_cons_succ, List.setIfInBounds_toArray, List.set_cons_zero, List.set_cons_succ])
            (refine wpAnyH_done (by kernel_rfl) ?_ _; refine NoPanic.normal ?_)
            clear hHeld y0 y1 y2 f0 f1 f2
            go_wp2_with fail
            go_meet
            exact ⟨e5, ca, cb, Aa, Ab, rfl, Lib.hid (row_put (row_put (row_put E5.out _) _) _), Lib.hid (((RW5.out.set_ E5.out t24 0 _).set_ (row_put E5.out _) t24 1 _).set_ (row_put (row_put E5.out _) _) t24 2 _), Lib.hid (Below.setCell (Below.setCell (Below.setCell S5.out (p := ⟨e5, 0, none⟩) ze _) (p := ⟨e5, 1, none⟩) ze _) (p := ⟨e5, 2, none⟩) ze _), Lib.hid ze⟩
          · skip
            go_simp
            (refine hK.out _ _ (Below.alloc hHeld z2 _) (fun hHeld2 => ?_); clear hK K hHeld; have hHeld := hHeld2; clear hHeld2; try simp only [Act.put, List.getElem_toArray, List.getElem_cons_zero, List.getElem_cons_succ, List.setIfInBounds_toArray, List.set_cons_zero, List.set_cons_succ])
            obtain ⟨gb, hg⟩ : ∃ g, u2.heap.size = g := ⟨_, rfl⟩
            obtain ⟨u3, hu⟩ : ∃ x, x = u2.alloc (.cells #[] 9) := ⟨_, rfl⟩
            have RW3 : Hid (R3 u3 w5.heap.size (.slice (some ⟨ga, 0, none⟩) 0 0) (.slice (some ⟨gb, 0, none⟩) 0 0) (.slice none 0 0) [] [] []) := Lib.hid (by rw [hu, ← hg]; exact (R3.fresh RW2.out.swap z2).swap)
            have S3 : Hid (Below w5.heap.size w5 u3) := Lib.hid (by rw [hu]; exact S2.out.alloc z2 _)
            have E3 : Hid (u3.heap[e5]? = some (.cells #[.int .i64 0, .slice none 0 0, .slice none 0 0] 24 (0, 0))) := Lib.hid (by rw [hu]; exact (alloc_old _ _ (lt_of_block E2.out)).trans E2.out)
            have z3 : w5.heap.size ≤ u3.heap.size := S3.out.size
            rw [← hu] at hHeld ⊢
            rw [hg]
            clear hu hg
            (refine wpAnyH_ready (rs := [5]) (by kernel_rfl) (by simp) ?_; refine AllReadyH.cons (o := _) rfl (fun K hK => ?_) AllReadyH.nil)
            refine step_appR (by simp [Region.wanted, yielded]) (.tmp 73) (.tmp 75) 22 rfl Tryd.underlying22 info_str rfl w5.heap.size (.slice (some ⟨ga, 0, none⟩) 0 0) 0 _ A1 18 c1 (sv SG) (sv_cells _) rfl rfl RW3.out.oa.row (RA.out.below (S3.out)) (by rw [sv_len, sl.out]) z3 (by omega) (by omega) ?_
            intro Aa ca u4 hown hg hl hb
            have hown2 : u4.ownsRow w5.heap.size 9 1 (.slice Aa 18 ca) 18 (sv SG) := by have t := hown; rw [Nat.zero_add] at t; exact t
            have hl2 : ∀ g, (Value.slice Aa 18 ca).ownBlock = some g → _ := fun g e => hl g (by rw [Nat.zero_add]; exact e)
            have S4 : Hid (Below w5.heap.size w5 u4) := Lib.hid (S3.out.trans hb)
            have RW4 : Hid (R3 u4 w5.heap.size (.slice Aa 18 ca) (.slice (some ⟨gb, 0, none⟩) 0 0) (.slice none 0 0) SG [] []) := Lib.hid (R3.grow RW3.out (X' := SG) ⟨18, by rw [sl.out], hown2⟩ hg hl2)
            have E4 : Hid (u4.heap[e5]? = some (.cells #[.int .i64 0, .slice none 0 0, .slice none 0 0] 24 (0, 0))) := Lib.hid (blk_keep hg RW3.out.oa.row E3.out t24)
            have z4 : w5.heap.size ≤ u4.heap.size := S4.out.size
            (refine hK.out _ _ S4.out (fun hHeld2 => ?_); clear hK K hHeld; have hHeld := hHeld2; clear hHeld2; try simp only [Act.put, List.getElem_toArray, List.getElem_cons_zero, List.getElem_cons_succ, List.setIfInBounds_toArray, List.set_cons_zero, List.set_cons_succ])
            simp only [Nat.zero_add]
            clear hown hown2 hg hl hl2 hb
            (refine wpAnyH_ready (rs := [9]) (by kernel_rfl) (by simp) ?_; refine AllReadyH.cons (o := _) rfl (fun K hK => ?_) AllReadyH.nil)
            refine step_appR (by simp [Region.wanted, yielded]) (.tmp 77) (.tmp 79) 22 rfl Tryd.underlying22 info_str rfl w5.heap.size (.slice (some ⟨gb, 0, none⟩) 0 0) 0 _ A2 h c2 (sv PT) (sv_cells _) rfl rfl RW4.out.swap.oa.row (RB.out.below (S4.out)) (by rw [sv_len, pl.out]) z4 (by omega) (by omega) ?_
            intro Ab cb u5 hown hg hl hb
            have hown2 : u5.ownsRow w5.heap.size 9 1 (.slice Ab h cb) h (sv PT) := by have t := hown; rw [Nat.zero_add] at t; exact t
            have hl2 : ∀ g, (Value.slice Ab h cb).ownBlock = some g → _ := fun g e => hl g (by rw [Nat.zero_add]; exact e)
            have S5 : Hid (Below w5.heap.size w5 u5) := Lib.hid (S4.out.trans hb)
            have RW5 : Hid (R3 u5 w5.heap.size (.slice Aa 18 ca) (.slice Ab h cb) (.slice none 0 0) SG PT []) := Lib.hid ((R3.grow RW4.out.swap (X' := PT) ⟨h, by rw [pl.out], hown2⟩ hg hl2).swap)
            have E5 : Hid (u5.heap[e5]? = some (.cells #[.int .i64 0, .slice none 0 0, .slice none 0 0] 24 (0, 0))) := Lib.hid (blk_keep hg RW4.out.swap.oa.row E4.out t24)
            have z5 : w5.heap.size ≤ u5.heap.size := S5.out.size
            (refine hK.out _ _ S5.out (fun hHeld2 => ?_); clear hK K hHeld; have hHeld := hHeld2; clear hHeld2; try simp only [Act.put, List.getElem_toArray, List.getElem_cons_zero, List.getElem_cons_succ, List.setIfInBounds_toArray, List.set_cons_zero, List.set_cons_succ])
            simp only [Nat.zero_add]
            clear hown hown2 hg hl hl2 hb
            (refine wpAnyH_take (i := 10) (oi := _) (v := ?_) rfl (by kernel_rfl) (by kernel_rfl) (by kernel_rfl) (fun _ _ _ h => h) (Or.inl ⟨?_, ?_⟩) (by assumption) ?_; rotate_left; (focus (first | rfl | (simp [Region.wanted, yielded]; done))); (focus (intro w hSw; (try dsimp only at hSw); go_simp; all_goals (with_reducible rfl))); try simp only [Act.put, List.getElem_toArray, List.getElem_cons_zero, List.getElem_cons_succ, List.setIfInBounds_toArray, List.set_cons_zero, List.set_cons_succ])
            obtain ⟨y0, y1, y2⟩ := cells3 E5.out
            have f0 := free_blk E5.out 0
            have f1 := free_blk E5.out 1
            have f2 := free_blk E5.out 2
            (refine wpAnyH_ready (rs := [12]) (by kernel_rfl) (by simp) ?_; refine AllReadyH.cons (o := _) rfl (fun K hK => ?_) AllReadyH.nil; go_simp)
            (refine hK.out _ _ (Below.setCell (Below.setCell (Below.setCell S5.out (p := ⟨e5, 0, none⟩) ze _) (p := ⟨e5, 1, none⟩) ze _) (p := ⟨e5, 2, none⟩) ze _) (fun hHeld2 => ?_); clear hK K hHeld; have hHeld := hHeld2; clear hHeld2; try simp only [Act.put, List.getElem_toArray, List.getElem_cons_zero, List.getElem_cons_succ, List.setIfInBounds_toArray, List.set_cons_zero, List.set_cons_succ])
            (refine wpAnyH_done (by kernel_rfl) ?_ _; refine NoPanic.normal ?_)
            clear hHeld y0 y1 y2 f0 f1 f2
            go_wp2_with fail
            go_meet
            exact ⟨e5, ca, cb, Aa, Ab, rfl, Lib.hid (row_put (row_put (row_put E5.out _) _) _), Lib.hid (((RW5.out.set_ E5.out t24 0 _).set_ (row_put E5.out _) t24 1 _).set_ (row_put (row_put E5.out _) _) t24 2 _), Lib.hid (Below.setCell (Below.setCell (Below.setCell S5.out (p := ⟨e5, 0, none⟩) ze _) (p := ⟨e5, 1, none⟩) ze _) (p := ⟨e5, 2, none⟩) ze _), Lib.hid ze⟩
      · skip
        go_simp
        (refine hK.out _ _ (Below.alloc hHeld z0 _) (fun hHeld2 => ?_); clear hK K hHeld; have hHeld := hHeld2; clear hHeld2; try simp only [Act.put, List.getElem_toArray, List.getElem_cons_zero, List.getElem_cons_succ, List.setIfInBounds_toArray, List.set_cons_zero, List.set_cons_succ])
        obtain ⟨gb, hg⟩ : ∃ g, u0.heap.size = g := ⟨_, rfl⟩
        obtain ⟨u1, hu⟩ : ∃ x, x = u0.alloc (.cells #[] 9) := ⟨_, rfl⟩
        have RW1 : Hid (R3 u1 w5.heap.size (.slice none 0 0) (.slice (some ⟨gb, 0, none⟩) 0 0) (.slice none 0 0) [] [] []) := Lib.hid (by rw [hu, ← hg]; exact (R3.fresh RW0.out.swap z0).swap)
        have S1 : Hid (Below w5.heap.size w5 u1) := Lib.hid (by rw [hu]; exact S0.out.alloc z0 _)
        have z1 : w5.heap.size ≤ u1.heap.size := S1.out.size
        rw [← hu] at hHeld ⊢
        rw [hg]
        clear hu hg
        (refine wpAnyH_ready (rs := [2, 11]) (by kernel_rfl) (by simp) ?_; refine AllReadyH.cons (o := _) rfl (fun K hK => ?_) (AllReadyH.cons (o := _) rfl (fun K hK => ?_) AllReadyH.nil))
        · skip
          go_simp
          (refine hK.out _ _ (Below.alloc hHeld z1 _) (fun hHeld2 => ?_); clear hK K hHeld; have hHeld := hHeld2; clear hHeld2; try simp only [Act.put, List.getElem_toArray, List.getElem_cons_zero, List.getElem_cons_succ, List.setIfInBounds_toArray, List.set_cons_zero, List.set_cons_succ])
          obtain ⟨ga, hg⟩ : ∃ g, u1.heap.size = g := ⟨_, rfl⟩
          obtain ⟨u2, hu⟩ : ∃ x, x = u1.alloc (.cells #[] 9) := ⟨_, rfl⟩
          have RW2 : Hid (R3 u2 w5.heap.size (.slice (some ⟨ga, 0, none⟩) 0 0) (.slice (some ⟨gb, 0, none⟩) 0 0) (.slice none 0 0) [] [] []) := Lib.hid (by rw [hu, ← hg]; exact R3.fresh RW1.out z1)
          have S2 : Hid (Below w5.heap.size w5 u2) := Lib.hid (by rw [hu]; exact S1.out.alloc z1 _)
          have z2 : w5.heap.size ≤ u2.heap.size := S2.out.size
          rw [← hu] at hHeld ⊢
          rw [hg]
          clear hu hg
          (refine wpAnyH_ready (rs := [5, 11]) (by kernel_rfl) (by simp) ?_; refine AllReadyH.cons (o := _) rfl (fun K hK => ?_) (AllReadyH.cons (o := _) rfl (fun K hK => ?_) AllReadyH.nil))
          · skip
            refine step_appR (by simp [Region.wanted, yielded]) (.tmp 73) (.tmp 75) 22 rfl Tryd.underlying22 info_str rfl w5.heap.size (.slice (some ⟨ga, 0, none⟩) 0 0) 0 _ A1 18 c1 (sv SG) (sv_cells _) rfl rfl RW2.out.oa.row (RA.out.below (S2.out)) (by rw [sv_len, sl.out]) z2 (by omega) (by omega) ?_
            intro Aa ca u3 hown hg hl hb
            have hown2 : u3.ownsRow w5.heap.size 9 1 (.slice Aa 18 ca) 18 (sv SG) := by have t := hown; rw [Nat.zero_add] at t; exact t
            have hl2 : ∀ g, (Value.slice Aa 18 ca).ownBlock = some g → _ := fun g e => hl g (by rw [Nat.zero_add]; exact e)
            have S3 : Hid (Below w5.heap.size w5 u3) := Lib.hid (S2.out.trans hb)
            have RW3 : Hid (R3 u3 w5.heap.size (.slice Aa 18 ca) (.slice (some ⟨gb, 0, none⟩) 0 0) (.slice none 0 0) SG [] []) := Lib.hid (R3.grow RW2.out (X' := SG) ⟨18, by rw [sl.out], hown2⟩ hg hl2)
            have z3 : w5.heap.size ≤ u3.heap.size := S3.out.size
            (refine hK.out _ _ S3.out (fun hHeld2 => ?_); clear hK K hHeld; have hHeld := hHeld2; clear hHeld2; try simp only [Act.put, List.getElem_toArray, List.getElem_cons_zero, List.getElem_cons_succ, List.setIfInBounds_toArray, List.set_cons_zero, List.set_cons_succ])
            simp only [Nat.zero_add]
            clear hown hown2 hg hl hl2 hb
            (refine wpAnyH_ready (rs := [9, 11]) (by kernel_rfl) (by simp) ?_; refine AllReadyH.cons (o := _) rfl (fun K hK => ?_) (AllReadyH.cons (o := _) rfl (fun K hK => ?_) AllReadyH.nil))
            · skip
              refine step_appR (by simp [Region.wanted, yielded]) (.tmp 77) (.tmp 79) 22 rfl Tryd.underlying22 info_str rfl w5.heap.size (.slice (some ⟨gb, 0, none⟩) 0 0) 0 _ A2 h c2 (sv PT) (sv_cells _) rfl rfl RW3.out.swap.oa.row (RB.out.below (S3.out)) (by rw [sv_len, pl.out]) z3 (by omega) (by omega) ?_
              intro Ab cb u4 hown hg hl hb
              have hown2 : u4.ownsRow w5.heap.size 9 1 (.slice Ab h cb) h (sv PT) := by have t := hown; rw [Nat.zero_add] at t; exact t
              have hl2 : ∀ g, (Value.slice Ab h cb).ownBlock = some g → _ := fun g e => hl g (by rw [Nat.zero_add]; exact e)
              have S4 : Hid (Below w5.heap.size w5 u4) := Lib.hid (S3.out.trans hb)
              have RW4 : Hid (R3 u4 w5.heap.size (.slice Aa 18 ca) (.slice Ab h cb) (.slice none 0 0) SG PT []) := Lib.hid ((R3.grow RW3.out.swap (X' := PT) ⟨h, by rw [pl.out], hown2⟩ hg hl2).swap)
              have z4 : w5.heap.size ≤ u4.heap.size := S4.out.size
              (refine hK.out _ _ S4.out (fun hHeld2 => ?_); clear hK K hHeld; have hHeld := hHeld2; clear hHeld2; try simp only [Act.put, List.getElem_toArray, List.getElem_cons_zero, List.getElem_cons_succ, List.setIfInBounds_toArray, List.set_cons_zero, List.set_cons_succ])
              simp only [Nat.zero_add]
              clear hown hown2 hg hl hl2 hb
              (refine wpAnyH_take (i := 10) (oi := _) (v := ?_) rfl (by kernel_rfl) (by kernel_rfl) (by kernel_rfl) (fun _ _ _ h => h) (Or.inl ⟨?_, ?_⟩) (by assumption) ?_; rotate_left; (focus (first | rfl | (simp [Region.wanted, yielded]; done))); (focus (intro w hSw; (try dsimp only at hSw); go_simp; all_goals (with_reducible rfl))); try simp only [Act.put, List.getElem_toArray, List.getElem_cons_zero, List.getElem_cons_succ, List.setIfInBounds_toArray, List.set_cons_zero, List.set_cons_succ])
              (refine wpAnyH_ready (rs := [11]) (by kernel_rfl) (by simp) ?_; refine AllReadyH.cons (o := _) rfl (fun K hK => ?_) AllReadyH.nil)
              go_simp
              (refine hK.out _ _ (Below.alloc hHeld z4 _) (fun hHeld2 => ?_); clear hK K hHeld; have hHeld := hHeld2; clear hHeld2; try simp only [Act.put, List.getElem_toArray, List.getElem_cons_zero, List.getElem_cons_succ, List.setIfInBounds_toArray, List.set_cons_zero, List.set_cons_succ])
              obtain ⟨e5, hg⟩ : ∃ g, u4.heap.size = g := ⟨_, rfl⟩
              have ze : w5.heap.size ≤ e5 := by rw [← hg]; exact z4
              obtain ⟨u5, hu⟩ : ∃ x, x = u4.alloc (.cells #[.int .i64 0, .slice none 0 0, .slice none 0 0] 24) := ⟨_, rfl⟩
              have RW5 : Hid (R3 u5 w5.heap.size (.slice Aa 18 ca) (.slice Ab h cb) (.slice none 0 0) SG PT []) := Lib.hid (by rw [hu]; exact RW4.out.alloc _)
              have S5 : Hid (Below w5.heap.size w5 u5) := Lib.hid (by rw [hu]; exact S4.out.alloc z4 _)
              have E5 : Hid (u5.heap[e5]? = some (.cells #[.int .i64 0, .slice none 0 0, .slice none 0 0] 24 (0, 0))) := Lib.hid (by rw [hu, ← hg]; exact heap_alloc_new u4 _)
              have z5 : w5.heap.size ≤ u5.heap.size := S5.out.size
              rw [← hu] at hHeld ⊢
              rw [hg]
              clear hu hg
              obtain ⟨y0, y1, y2⟩ := cells3 E5.out
              have f0 := free_blk E5.out 0
              have f1 := free_blk E5.out 1
              have f2 := free_blk E5.out 2
              (refine wpAnyH_ready (rs := [12]) (by kernel_rfl) (by simp) ?_; refine AllReadyH.cons (o := _) rfl (fun K hK => ?_) AllReadyH.nil; go_simp)
              (refine hK.out _ _ (Below.setCell (Below.setCell (Below.setCell S5.out (p := ⟨e5, 0, none⟩) ze _) (p := ⟨e5, 1, none⟩) ze _) (p := ⟨e5, 2, none⟩) ze _) (fun hHeld2 => ?_); clear hK K hHeld; have hHeld := hHeld2; clear hHeld2; try simp only [Act.put, List.getElem_toArray, List.getElem_cons_zero, List.getElem_cons_succ, List.setIfInBounds_toArray, List.set_cons_zero, List.set_cons_succ])
              (refine wpAnyH_done (by kernel_rfl) ?_ _; refine NoPanic.normal ?_)
              clear hHeld y0 y1 y2 f0 f1 f2
              go_wp2_with fail
              go_meet
              exact ⟨e5, ca, cb, Aa, Ab, rfl, Lib.hid (row_put (row_put (row_put E5.out _) _) _), Lib.hid (((RW5.out.set_ E5.out t24 0 _).set_ (row_put E5.out _) t24 1 _).set_ (row_put (row_put E5.out _) _) t24 2 _), Lib.hid (Below.setCell (Below.setCell (Below.setCell S5.out (p := ⟨e5, 0, none⟩) ze _) (p := ⟨e5, 1, none⟩) ze _) (p := ⟨e5, 2, none⟩) ze _), Lib.hid ze⟩
            · skip
              go_simp
              (refine hK.out _ _ (Below.alloc hHeld z3 _) (fun hHeld2 => ?_); clear hK K hHeld; have hHeld := hHeld2; clear hHeld2; try simp only [Act.put, List.getElem_toArray, List.getElem_cons_zero, List.getElem_cons_succ, List.setIfInBounds_toArray, List.set_cons_zero, List.set_cons_succ])
              obtain ⟨e5, hg⟩ : ∃ g, u3.heap.size = g := ⟨_, rfl⟩
              have ze : w5.heap.size ≤ e5 := by rw [← hg]; exact z3
              obtain ⟨u4, hu⟩ : ∃ x, x = u3.alloc (.cells #[.int .i64 0, .slice none 0 0, .slice none 0 0] 24) := ⟨_, rfl⟩
              have RW4 : Hid (R3 u4 w5.heap.size (.slice Aa 18 ca) (.slice (some ⟨gb, 0, none⟩) 0 0) (.slice none 0 0) SG [] []) := Lib.hid (by rw [hu]; exact RW3.out.alloc _)
              have S4 : Hid (Below w5.heap.size w5 u4) := Lib.hid (by rw [hu]; exact S3.out.alloc z3 _)
              have E4 : Hid (u4.heap[e5]? = some (.cells #[.int .i64 0, .slice none 0 0, .slice none 0 0] 24 (0, 0))) := Lib.hid (by rw [hu, ← hg]; exact heap_alloc_new u3 _)
              have z4 : w5.heap.size ≤ u4.heap.size := S4.out.size
              rw [← hu] at hHeld ⊢
              rw [hg]
              clear hu hg
              (refine wpAnyH_ready (rs := [9]) (by kernel_rfl) (by simp) ?_; refine AllReadyH.cons (o := _) rfl (fun K hK => ?_) AllReadyH.nil)
              refine step_appR (by simp [Region.wanted, yielded]) (.tmp 77) (.tmp 79) 22 rfl Tryd.underlying22 info_str rfl w5.heap.size (.slice (some ⟨gb, 0, none⟩) 0 0) 0 _ A2 h c2 (sv PT) (sv_cells _) rfl rfl RW4.out.swap.oa.row (RB.out.below (S4.out)) (by rw [sv_len, pl.out]) z4 (by omega) (by omega) ?_
              intro Ab cb u5 hown hg hl hb
              have hown2 : u5.ownsRow w5.heap.size 9 1 (.slice Ab h cb) h (sv PT) := by have t := hown; rw [Nat.zero_add] at t; exact t
              have hl2 : ∀ g, (Value.slice Ab h cb).ownBlock = some g → _ := fun g e => hl g (by rw [Nat.zero_add]; exact e)
              have S5 : Hid (Below w5.heap.size w5 u5) := Lib.hid (S4.out.trans hb)
              have RW5 : Hid (R3 u5 w5.heap.size (.slice Aa 18 ca) (.slice Ab h cb) (.slice none 0 0) SG PT []) := Lib.hid ((R3.grow RW4.out.swap (X' := PT) ⟨h, by rw [pl.out], hown2⟩ hg hl2).swap)
              have E5 : Hid (u5.heap[e5]? = some (.cells #[.int .i64 0, .slice none 0 0, .slice none 0 0] 24 (0, 0))) := Lib.hid (blk_keep hg RW4.out.swap.oa.row E4.out t24)
              have z5 : w5.heap.size ≤ u5.heap.size := S5.out.size
              (refine hK.out _ _ S5.out (fun hHeld2 => ?_); clear hK K hHeld; have hHeld := hHeld2; clear hHeld2; try simp only [Act.put, List.getElem_toArray, List.getElem_cons_zero, List.getElem_cons_succ, List.setIfInBounds_toArray, List.set_cons_zero, List.set_cons_succ])
              simp only [Nat.zero_add]
              clear hown hown2 hg hl hl2 hb
              (refine wpAnyH_take (i := 10) (oi := _) (v := ?_) rfl (by kernel_rfl) (by kernel_rfl) (by kernel_rfl) (fun _ _ _ h => h) (Or.inl ⟨?_, ?_⟩) (by assumption) ?_; rotate_left; (focus (first | rfl | (simp [Region.wanted, yielded]; done))); (focus (intro w hSw; (try dsimp only at hSw); go_simp; all_goals (with_reducible rfl))); try simp only [Act.put, List.getElem_toArray, List.getElem_cons_zero, List.getElem_cons_succ, List.setIfInBounds_toArray, List.set_cons_zero, List.set_cons_succ])
              obtain ⟨y0, y1, y2⟩ := cells3 E5.out
              have f0 := free_blk E5.out 0
              have f1 := free_blk E5.out 1
              have f2 := free_blk E5.out 2
              (refine wpAnyH_ready (rs := [12]) (by kernel_rfl) (by simp) ?_; refine AllReadyH.cons (o := _) rfl (fun K hK => ?_) AllReadyH.nil; go_simp)
              (refine hK.out _ _ (Below.setCell (Below.setCell (Below.setCell S5.out (p := ⟨e5, 0, none⟩) ze _) (p := ⟨e5, 1, none⟩) ze _) (p := ⟨e5, 2, none⟩) ze _) (fun hHeld2 => ?_); clear hK K hHeld; have hHeld := hHeld2; clear hHeld2; try simp only [Act.put, List.getElem_toArray, List.getElem_cons_zero, List.getElem_cons_succ, List.setIfInBounds_toArray, List.set_cons_zero, List.set_cons_succ])
              (refine wpAnyH_done (by kernel_rfl) ?_ _; refine NoPanic.normal ?_)
              clear hHeld y0 y1 y2 f0 f1 f2
              go_wp2_with fail
              go_meet
              exact ⟨e5, ca, cb, Aa, Ab, rfl, Lib.hid (row_put (row_put (row_put E5.out _) _) _), Lib.hid (((RW5.out.set_ E5.out t24 0 _).set_ (row_put E5.out _) t24 1 _).set_ (row_put (row_put E5.out _) _) t24 2 _), Lib.hid (Below.setCell (Below.setCell (Below.setCell S5.out (p := ⟨e5, 0, none⟩) ze _) (p := ⟨e5, 1, none⟩) ze _) (p := ⟨e5, 2, none⟩) ze _), Lib.hid ze⟩
          · skip
            go_simp
            (refine hK.out _ _ (Below.alloc hHeld z2 _) (fun hHeld2 => ?_); clear hK K hHeld; have hHeld := hHeld2; clear hHeld2; try simp only [Act.put, List.getElem_toArray, List.getElem_cons_zero, List.getElem_cons_succ, List.setIfInBounds_toArray, List.set_cons_zero, List.set_cons_succ])
            obtain ⟨e5, hg⟩ : ∃ g, u2.heap.size = g := ⟨_, rfl⟩
            have ze : w5.heap.size ≤ e5 := by rw [← hg]; exact z2
            obtain ⟨u3, hu⟩ : ∃ x, x = u2.alloc (.cells #[.int .i64 0, .slice none 0 0, .slice none 0 0] 24) := ⟨_, rfl⟩
            have RW3 : Hid (R3 u3 w5.heap.size (.slice (some ⟨ga, 0, none⟩) 0 0) (.slice (some ⟨gb, 0, none⟩) 0 0) (.slice none 0 0) [] [] []) := Lib.hid (by rw [hu]; exact RW2.out.alloc _)
            have S3 : Hid (Below w5.heap.size w5 u3) := Lib.hid (by rw [hu]; exact S2.out.alloc z2 _)
            have E3 : Hid (u3.heap[e5]? = some (.cells #[.int .i64 0, .slice none 0 0, .slice none 0 0] 24 (0, 0))) := Lib.hid (by rw [hu, ← hg]; exact heap_alloc_new u2 _)
            have z3 : w5.heap.size ≤ u3.heap.size := S3.out.size
            rw [← hu] at hHeld ⊢
            rw [hg]
            clear hu hg
            (refine wpAnyH_ready (rs := [5]) (by kernel_rfl) (by simp) ?_; refine AllReadyH.cons (o := _) rfl (fun K hK => ?_) AllReadyH.nil)
            refine step_appR (by simp [Region.wanted, yielded]) (.tmp 73) (.tmp 75) 22 rfl Tryd.underlying22 info_str rfl w5.heap.size (.slice (some ⟨ga, 0, none⟩) 0 0) 0 _ A1 18 c1 (sv SG) (sv_cells _) rfl rfl RW3.out.oa.row (RA.out.below (S3.out)) (by rw [sv_len, sl.out]) z3 (by omega) (by omega) ?_
            intro Aa ca u4 hown hg hl hb
            have hown2 : u4.ownsRow w5.heap.size 9 1 (.slice Aa 18 ca) 18 (sv SG) := by have t := hown; rw [Nat.zero_add] at t; exact t
            have hl2 : ∀ g, (Value.slice Aa 18 ca).ownBlock = some g → _ := fun g e => hl g (by rw [Nat.zero_add]; exact e)
            have S4 : Hid (Below w5.heap.size w5 u4) := Lib.hid (S3.out.trans hb)
            have RW4 : Hid (R3 u4 w5.heap.size (.slice Aa 18 ca) (.slice (some ⟨gb, 0, none⟩) 0 0) (.slice none 0 0) SG [] []) := Lib.hid (R3.grow RW3.out (X' := SG) ⟨18, by rw [sl.out], hown2⟩ hg hl2)
            have E4 : Hid (u4.heap[e5]? = some (.cells #[.int .i64 0, .slice none 0 0, .slice none 0 0] 24 (0, 0))) := Lib.hid (blk_keep hg RW3.out.oa.row E3.out t24)
            have z4 : w5.heap.size ≤ u4.heap.size := S4.out.size
            (refine hK.out _ _ S4.out (fun hHeld2 => ?_); clear hK K hHeld; have hHeld := hHeld2; clear hHeld2; try simp only [Act.put, List.getElem_toArray, List.getElem_cons_zero, List.getElem_cons_succ, List.setIfInBounds_toArray, List.set_cons_zero, List.set_cons_succ])
            simp only [Nat.zero_add]
            clear hown hown2 hg hl hl2 hb
            (refine wpAnyH_ready (rs := [9]) (by kernel_rfl) (by simp) ?_; refine AllReadyH.cons (o := _) rfl (fun K hK => ?_) AllReadyH.nil)
            refine step_appR (by simp [Region.wanted, yielded]) (.tmp 77) (.tmp 79) 22 rfl Tryd.underlying22 info_str rfl w5.heap.size (.slice (some ⟨gb, 0, none⟩) 0 0) 0 _ A2 h c2 (sv PT) (sv_cells _) rfl rfl RW4.out.swap.oa.row (RB.out.below (S4.out)) (by rw [sv_len, pl.out]) z4 (by omega) (by omega) ?_
            intro Ab cb u5 hown hg hl hb
            have hown2 : u5.ownsRow w5.heap.size 9 1 (.slice Ab h cb) h (sv PT) := by have t := hown; rw [Nat.zero_add] at t; exact t
            have hl2 : ∀ g, (Value.slice Ab h cb).ownBlock = some g → _ := fun g e => hl g (by rw [Nat.zero_add]; exact e)
            have S5 : Hid (Below w5.heap.size w5 u5) := Lib.hid (S4.out.trans hb)
            have RW5 : Hid (R3 u5 w5.heap.size (.slice Aa 18 ca) (.slice Ab h cb) (.slice none 0 0) SG PT []) := Lib.hid ((R3.grow RW4.out.swap (X' := PT) ⟨h, by rw [pl.out], hown2⟩ hg hl2).swap)
            have E5 : Hid (u5.heap[e5]? = some (.cells #[.int .i64 0, .slice none 0 0, .slice none 0 0] 24 (0, 0))) := Lib.hid (blk_keep hg RW4.out.swap.oa.row E4.out t24)
            have z5 : w5.heap.size ≤ u5.heap.size := S5.out.size
            (refine hK.out _ _ S5.out (fun hHeld2 => ?_); clear hK K hHeld; have hHeld := hHeld2; clear hHeld2; try simp only [Act.put, List.getElem_toArray, List.getElem_cons_zero, List.getElem_cons_succ, List.setIfInBounds_toArray, List.set_cons_zero, List.set_cons_succ])
            simp only [Nat.zero_add]
            clear hown hown2 hg hl hl2 hb
            (refine wpAnyH_take (i := 10) (oi := _) (v := ?_) rfl (by kernel_rfl) (by kernel_rfl) (by kernel_rfl) (fun _ _ _ h => h) (Or.inl ⟨?_, ?_⟩) (by assumption) ?_; rotate_left; (focus (first | rfl | (simp [Region.wanted, yielded]; done))); (focus (intro w hSw; (try dsimp only at hSw); go_simp; all_goals (with_reducible rfl))); try simp only [Act.put, List.getElem_toArray, List.getElem_cons_zero, List.getElem_cons_succ, List.setIfInBounds_toArray, List.set_cons_zero, List.set_cons_succ])
            obtain ⟨y0, y1, y2⟩ := cells3 E5.out
            have f0 := free_blk E5.out 0
            have f1 := free_blk E5.out 1
            have f2 := free_blk E5.out 2
            (refine wpAnyH_ready (rs := [12]) (by kernel_rfl) (by simp) ?_; refine AllReadyH.cons (o := _) rfl (fun K hK => ?_) AllReadyH.nil; go_simp)
            (refine hK.out _ _ (Below.setCell (Below.setCell (Below.setCell S5.out (p := ⟨e5, 0, none⟩) ze _) (p := ⟨e5, 1, none⟩) ze _) (p := ⟨e5, 2, none⟩) ze _) (fun hHeld2 => ?_); clear hK K hHeld; have hHeld := hHeld2; clear hHeld2; try simp only [Act.put, List.getElem_toArray, List.getElem_cons_zero, List.getElem_cons_succ, List.setIfInBounds_toArray, List.set_cons_zero, List.set_cons_succ])
            (refine wpAnyH_done (by kernel_rfl) ?_ _; refine NoPanic.normal ?_)
            clear hHeld y0 y1 y2 f0 f1 f2
            go_wp2_with fail
            go_meet
            exact ⟨e5, ca, cb, Aa, Ab, rfl, Lib.hid (row_put (row_put (row_put E5.out _) _) _), Lib.hid (((RW5.out.set_ E5.out t24 0 _).set_ (row_put E5.out _) t24 1 _).set_ (row_put (row_put E5.out _) _) t24 2 _), Lib.hid (Below.setCell (Below.setCell (Below.setCell S5.out (p := ⟨e5, 0, none⟩) ze _) (p := ⟨e5, 1, none⟩) ze _) (p := ⟨e5, 2, none⟩) ze _), Lib.hid ze⟩
        · skip
          go_simp
          (refine hK.out _ _ (Below.alloc hHeld z1 _) (fun hHeld2 => ?_); clear hK K hHeld; have hHeld := hHeld2; clear hHeld2; try simp only [Act.put, List.getElem_toArray, List.getElem_cons_zero, List.getElem_cons_succ, List.setIfInBounds_toArray, List.set_cons_zero, List.set_cons_succ])
          obtain ⟨e5, hg⟩ : ∃ g, u1.heap.size = g := ⟨_, rfl⟩
          have ze : w5.heap.size ≤ e5 := by rw [← hg]; exact z1
          obtain ⟨u2, hu⟩ : ∃ x, x = u1.alloc (.cells #[.int .i64 0, .slice none 0 0, .slice none 0 0] 24) := ⟨_, rfl⟩
          have RW2 : Hid (R3 u2 w5.heap.size (.slice none 0 0) (.slice (some ⟨gb, 0, none⟩) 0 0) (.slice none 0 0) [] [] []) := Lib.hid (by rw [hu]; exact RW1.out.alloc _)
          have S2 : Hid (Below w5.heap.size w5 u2) := Lib.hid (by rw [hu]; exact S1.out.alloc z1 _)
          have E2 : Hid (u2.heap[e5]? = some (.cells #[.int .i64 0, .slice none 0 0, .slice none 0 0] 24 (0, 0))) := Lib.hid (by rw [hu, ← hg]; exact heap_alloc_new u1 _)
          have z2 : w5.heap.size ≤ u2.heap.size := S2.out.size
          rw [← hu] at hHeld ⊢
          rw [hg]
          clear hu hg
          (refine wpAnyH_ready (rs := [2]) (by kernel_rfl) (by simp) ?_; refine AllReadyH.cons (o := _) rfl (fun K hK => ?_) AllReadyH.nil)
          go_simp
          (refine hK.out _ _ (Below.alloc hHeld z2 _) (fun hHeld2 => ?_); clear hK K hHeld; have hHeld := hHeld2; clear hHeld2; try simp only [Act.put, List.getElem_toArray, List.getElem_cons_zero, List.getElem_cons_succ, List.setIfInBounds_toArray, List.set_cons_zero, List.set_cons_succ])
          obtain ⟨ga, hg⟩ : ∃ g, u2.heap.size = g := ⟨_, rfl⟩
          obtain ⟨u3, hu⟩ : ∃ x, x = u2.alloc (.cells #[] 9) := ⟨_, rfl⟩
          have RW3 : Hid (R3 u3 w5.heap.size (.slice (some ⟨ga, 0, none⟩) 0 0) (.slice (some ⟨gb, 0, none⟩) 0 0) (.slice none 0 0) [] [] []) := Lib.hid (by rw [hu, ← hg]; exact R3.fresh RW2.out z2)
          have S3 : Hid (Below w5.heap.size w5 u3) := Lib.hid (by rw [hu]; exact S2.out.alloc z2 _)
          have E3 : Hid (u3.heap[e5]? = some (.cells #[.int .i64 0, .slice none 0 0, .slice none 0 0] 24 (0, 0))) := Lib.hid (by rw [hu]; exact (alloc_old _ _ (lt_of_block E2.out)).trans E2.out)
          have z3 : w5.heap.size ≤ u3.heap.size := S3.out.size
          rw [← hu] at hHeld ⊢
          rw [hg]
          clear hu hg
          (refine wpAnyH_ready (rs := [5]) (by kernel_rfl) (by simp) ?_; refine AllReadyH.cons (o := _) rfl (fun K hK => ?_) AllReadyH.nil)
          refine step_appR (by simp [Region.wanted, yielded]) (.tmp 73) (.tmp 75) 22 rfl Tryd.underlying22 info_str rfl w5.heap.size (.slice (some ⟨ga, 0, none⟩) 0 0) 0 _ A1 18 c1 (sv SG) (sv_cells _) rfl rfl RW3.out.oa.row (RA.out.below (S3.out)) (by rw [sv_len, sl.out]) z3 (by omega) (by omega) ?_
          intro Aa ca u4 hown hg hl hb
          have hown2 : u4.ownsRow w5.heap.size 9 1 (.slice Aa 18 ca) 18 (sv SG) := by have t := hown; rw [Nat.zero_add] at t; exact t
          have hl2 : ∀ g, (Value.slice Aa 18 ca).ownBlock = some g → _ := fun g e => hl g (by rw [Nat.zero_add]; exact e)
          have S4 : Hid (Below w5.heap.size w5 u4) := Lib.hid (S3.out.trans hb)
          have RW4 : Hid (R3 u4 w5.heap.size (.slice Aa 18 ca) (.slice (some ⟨gb, 0, none⟩) 0 0) (.slice none 0 0) SG [] []) := Lib.hid (R3.grow RW3.out (X' := SG) ⟨18, by rw [sl.out], hown2⟩ hg hl2)
          have E4 : Hid (u4.heap[e5]? = some (.cells #[.int .i64 0, .slice none 0 0, .slice none 0 0] 24 (0, 0))) := Lib.hid (blk_keep hg RW3.out.oa.row E3.out t24)
          have z4 : w5.heap.size ≤ u4.heap.size := S4.out.size
          (refine hK.out _ _ S4.out (fun hHeld2 => ?_); clear hK K hHeld; have hHeld := hHeld2; clear hHeld2; try simp only [Act.put, List.getElem_toArray, List.getElem_cons_zero, List.getElem_cons_succ, List.setIfInBounds_toArray, List.set_cons_zero, List.set_cons_succ])
          simp only [Nat.zero_add]
          clear hown hown2 hg hl hl2 hb
          (refine wpAnyH_ready (rs := [9]) (by kernel_rfl) (by simp) ?_; refine AllReadyH.cons (o := _) rfl (fun K hK => ?_) AllReadyH.nil)
          refine step_appR (by simp [Region.wanted, yielded]) (.tmp 77) (.tmp 79) 22 rfl Tryd.underlying22 info_str rfl w5.heap.size (.slice (some ⟨gb, 0, none⟩) 0 0) 0 _ A2 h c2 (sv PT) (sv_cells _) rfl rfl RW4.out.swap.oa.row (RB.out.below (S4.out)) (by rw [sv_len, pl.out]) z4 (by omega) (by omega) ?_
          intro Ab cb u5 hown hg hl hb
          have hown2 : u5.ownsRow w5.heap.size 9 1 (.slice Ab h cb) h (sv PT) := by have t := hown; rw [Nat.zero_add] at t; exact t
          have hl2 : ∀ g, (Value.slice Ab h cb).ownBlock = some g → _ := fun g e => hl g (by rw [Nat.zero_add]; exact e)
          have S5 : Hid (Below w5.heap.size w5 u5) := Lib.hid (S4.out.trans hb)
          have RW5 : Hid (R3 u5 w5.heap.size (.slice Aa 18 ca) (.slice Ab h cb) (.slice none 0 0) SG PT []) := Lib.hid ((R3.grow RW4.out.swap (X' := PT) ⟨h, by rw [pl.out], hown2⟩ hg hl2).swap)
          have E5 : Hid (u5.heap[e5]? = some (.cells #[.int .i64 0, .slice none 0 0, .slice none 0 0] 24 (0, 0))) := Lib.hid (blk_keep hg RW4.out.swap.oa.row E4.out t24)
          have z5 : w5.heap.size ≤ u5.heap.size := S5.out.size
          (refine hK.out _ _ S5.out (fun hHeld2 => ?_); clear hK K hHeld; have hHeld := hHeld2; clear hHeld2; try simp only [Act.put, List.getElem_toArray, List.getElem_cons_zero, List.getElem_cons_succ, List.setIfInBounds_toArray, List.set_cons_zero, List.set_cons_succ])
          simp only [Nat.zero_add]
          clear hown hown2 hg hl hl2 hb
          (refine wpAnyH_take (i := 10) (oi := _) (v := ?_) rfl (by kernel_rfl) (by kernel_rfl) (by kernel_rfl) (fun _ _ _ h => h) (Or.inl ⟨?_, ?_⟩) (by assumption) ?_; rotate_left; (focus (first | rfl | (simp [Region.wanted, yielded]; done))); (focus (intro w hSw; (try dsimp only at hSw); go_simp; all_goals (with_reducible rfl))); try simp only [Act.put, List.getElem_toArray, List.getElem_cons_zero, List.getElem_cons_succ, List.setIfInBounds_toArray, List.set_cons_zero, List.set_cons_succ])
          obtain ⟨y0, y1, y2⟩ := cells3 E5.out
          have f0 := free_blk E5.out 0
          have f1 := free_blk E5.out 1
          have f2 := free_blk E5.out 2
          (refine wpAnyH_ready (rs := [12]) (by kernel_rfl) (by simp) ?_; refine AllReadyH.cons (o := _) rfl (fun K hK => ?_) AllReadyH.nil; go_simp)
          (refine hK.out _ _ (Below.setCell (Below.setCell (Below.setCell S5.out (p := ⟨e5, 0, none⟩) ze _) (p := ⟨e5, 1, none⟩) ze _) (p := ⟨e5, 2, none⟩) ze _) (fun hHeld2 => ?_); clear hK K hHeld; have hHeld := hHeld2; clear hHeld2; try simp only [Act.put, List.getElem_toArray, List.getElem_cons_zero, List.getElem_cons_succ, List.setIfInBounds_toArray, List.set_cons_zero, List.set_cons_succ])
          (refine wpAnyH_done (by kernel_rfl) ?_ _; refine NoPanic.normal ?_)
          clear hHeld y0 y1 y2 f0 f1 f2
          go_wp2_with fail
          go_meet
          exact ⟨e5, ca, cb, Aa, Ab, rfl, Lib.hid (row_put (row_put (row_put E5.out _) _) _), Lib.hid (((RW5.out.set_ E5.out t24 0 _).set_ (row_put E5.out _) t24 1 _).set_ (row_put (row_put E5.out _) _) t24 2 _), Lib.hid (Below.setCell (Below.setCell (Below.setCell S5.out (p := ⟨e5, 0, none⟩) ze _) (p := ⟨e5, 1, none⟩) ze _) (p := ⟨e5, 2, none⟩) ze _), Lib.hid ze⟩
      · skip
        go_simp
        (refine hK.out _ _ (Below.alloc hHeld z0 _) (fun hHeld2 => ?_); clear hK K hHeld; have hHeld := hHeld2; clear hHeld2; try simp only [Act.put, List.getElem_toArray, List.getElem_cons_zero, List.getElem_cons_succ, List.setIfInBounds_toArray, List.set_cons_zero, List.set_cons_succ])
        obtain ⟨e5, hg⟩ : ∃ g, u0.heap.size = g := ⟨_, rfl⟩
        have ze : w5.heap.size ≤ e5 := by rw [← hg]; exact z0
        obtain ⟨u1, hu⟩ : ∃ x, x = u0.alloc (.cells #[.int .i64 0, .slice none 0 0, .slice none 0 0] 24) := ⟨_, rfl⟩
        have RW1 : Hid (R3 u1 w5.heap.size (.slice none 0 0) (.slice none 0 0) (.slice none 0 0) [] [] []) := Lib.hid (by rw [hu]; exact RW0.out.alloc _)
        have S1 : Hid (Below w5.heap.size w5 u1) := Lib.hid (by rw [hu]; exact S0.out.alloc z0 _)
        have E1 : Hid (u1.heap[e5]? = some (.cells #[.int .i64 0, .slice none 0 0, .slice none 0 0] 24 (0, 0))) := Lib.hid (by rw [hu, ← hg]; exact heap_alloc_new u0 _)
        have z1 : w5.heap.size ≤ u1.heap.size := S1.out.size
        rw [← hu] at hHeld ⊢
        rw [hg]
        clear hu hg
        (refine wpAnyH_ready (rs := [2, 6]) (by kernel_rfl) (by simp) ?_; refine AllReadyH.cons (o := _) rfl (fun K hK => ?_) (AllReadyH.cons (o := _) rfl (fun K hK => ?_) AllReadyH.nil))
        · skip
          go_simp
          (refine hK.out _ _ (Below.alloc hHeld z1 _) (fun hHeld2 => ?_); clear hK K hHeld; have hHeld := hHeld2; clear hHeld2; try simp only [Act.put, List.getElem_toArray, List.getElem_cons_zero, List.getElem_cons_succ, List.setIfInBounds_toArray, List.set_cons_zero, List.set_cons_succ])
          obtain ⟨ga, hg⟩ : ∃ g, u1.heap.size = g := ⟨_, rfl⟩
          obtain ⟨u2, hu⟩ : ∃ x, x = u1.alloc (.cells #[] 9) := ⟨_, rfl⟩
          have RW2 : Hid (R3 u2 w5.heap.size (.slice (some ⟨ga, 0, none⟩) 0 0) (.slice none 0 0) (.slice none 0 0) [] [] []) := Lib.hid (by rw [hu, ← hg]; exact R3.fresh RW1.out z1)
          have S2 : Hid (Below w5.heap.size w5 u2) := Lib.hid (by rw [hu]; exact S1.out.alloc z1 _)
          have E2 : Hid (u2.heap[e5]? = some (.cells #[.int .i64 0, .slice none 0 0, .slice none 0 0] 24 (0, 0))) := Lib.hid (by rw [hu]; exact (alloc_old _ _ (lt_of_block E1.out)).trans E1.out)
          have z2 : w5.heap.size ≤ u2.heap.size := S2.out.size
          rw [← hu] at hHeld ⊢
          rw [hg]
          clear hu hg
          (refine wpAnyH_ready (rs := [5, 6]) (by kernel_rfl) (by simp) ?_; refine AllReadyH.cons (o := _) rfl (fun K hK => ?_) (AllReadyH.cons (o := _) rfl (fun K hK => ?_) AllReadyH.nil))
          · skip
            refine step_appR (by simp [Region.wanted, yielded]) (.tmp 73) (.tmp 75) 22 rfl Tryd.underlying22 info_str rfl w5.heap.size (.slice (some ⟨ga, 0, none⟩) 0 0) 0 _ A1 18 c1 (sv SG) (sv_cells _) rfl rfl RW2.out.oa.row (RA.out.below (S2.out)) (by rw [sv_len, sl.out]) z2 (by omega) (by omega) ?_
            intro Aa ca u3 hown hg hl hb
            have hown2 : u3.ownsRow w5.heap.size 9 1 (.slice Aa 18 ca) 18 (sv SG) := by have t := hown; rw [Nat.zero_add] at t; exact t
            have hl2 : ∀ g, (Value.slice Aa 18 ca).ownBlock = some g → _ := fun g e => hl g (by rw [Nat.zero_add]; exact e)
            have S3 : Hid (Below w5.heap.size w5 u3) := Lib.hid (S2.out.trans hb)
            have RW3 : Hid (R3 u3 w5.heap.size (.slice Aa 18 ca) (.slice none 0 0) (.slice none 0 0) SG [] []) := Lib.hid (R3.grow RW2.out (X' := SG) ⟨18, by rw [sl.out], hown2⟩ hg hl2)
            have E3 : Hid (u3.heap[e5]? = some (.cells #[.int .i64 0, .slice none 0 0, .slice none 0 0] 24 (0, 0))) := Lib.hid (blk_keep hg RW2.out.oa.row E2.out t24)
            have z3 : w5.heap.size ≤ u3.heap.size := S3.out.size
            (refine hK.out _ _ S3.out (fun hHeld2 => ?_); clear hK K hHeld; have hHeld := hHeld2; clear hHeld2; try simp only [Act.put, List.getElem_toArray, List.getElem_cons_zero, List.getElem_cons_succ, List.setIfInBounds_toArray, List.set_cons_zero, List.set_cons_succ])
            simp only [Nat.zero_add]
            clear hown hown2 hg hl hl2 hb
            (refine wpAnyH_ready (rs := [6]) (by kernel_rfl) (by simp) ?_; refine AllReadyH.cons (o := _) rfl (fun K hK => ?_) AllReadyH.nil)
            go_simp
            (refine hK.out _ _ (Below.alloc hHeld z3 _) (fun hHeld2 => ?_); clear hK K hHeld; have hHeld := hHeld2; clear hHeld2; try simp only [Act.put, List.getElem_toArray, List.getElem_cons_zero, List.getElem_cons_succ, List.setIfInBounds_toArray, List.set_cons_zero, List.set_cons_succ])
            obtain ⟨gb, hg⟩ : ∃ g, u3.heap.size = g := ⟨_, rfl⟩
            obtain ⟨u4, hu⟩ : ∃ x, x = u3.alloc (.cells #[] 9) := ⟨_, rfl⟩
            have RW4 : Hid (R3 u4 w5.heap.size (.slice Aa 18 ca) (.slice (some ⟨gb, 0, none⟩) 0 0) (.slice none 0 0) SG [] []) := Lib.hid (by rw [hu, ← hg]; exact (R3.fresh RW3.out.swap z3).swap)
            have S4 : Hid (Below w5.heap.size w5 u4) := Lib.hid (by rw [hu]; exact S3.out.alloc z3 _)
            have E4 : Hid (u4.heap[e5]? = some (.cells #[.int .i64 0, .slice none 0 0, .slice none 0 0] 24 (0, 0))) := Lib.hid (by rw [hu]; exact (alloc_old _ _ (lt_of_block E3.out)).trans E3.out)
            have z4 : w5.heap.size ≤ u4.heap.size := S4.out.size
            rw [← hu] at hHeld ⊢
            rw [hg]
            clear hu hg
            (refine wpAnyH_ready (rs := [9]) (by kernel_rfl) (by simp) ?_; refine AllReadyH.cons (o := _) rfl (fun K hK => ?_) AllReadyH.nil)
            refine step_appR (by simp [Region.wanted, yielded]) (.tmp 77) (.tmp 79) 22 rfl Tryd.underlying22 info_str rfl w5.heap.size (.slice (some ⟨gb, 0, none⟩) 0 0) 0 _ A2 h c2 (sv PT) (sv_cells _) rfl rfl RW4.out.swap.oa.row (RB.out.below (S4.out)) (by rw [sv_len, pl.out]) z4 (by omega) (by omega) ?_
            intro Ab cb u5 hown hg hl hb
            have hown2 : u5.ownsRow w5.heap.size 9 1 (.slice Ab h cb) h (sv PT) := by have t := hown; rw [Nat.zero_add] at t; exact t
            have hl2 : ∀ g, (Value.slice Ab h cb).ownBlock = some g → _ := fun g e => hl g (by rw [Nat.zero_add]; exact e)
            have S5 : Hid (Below w5.heap.size w5 u5) := Lib.hid (S4.out.trans hb)
            have RW5 : Hid (R3 u5 w5.heap.size (.slice Aa 18 ca) (.slice Ab h cb) (.slice none 0 0) SG PT []) := Lib.hid ((R3.grow RW4.out.swap (X' := PT) ⟨h, by rw [pl.out], hown2⟩ hg hl2).swap)
            have E5 : Hid (u5.heap[e5]? = some (.cells #[.int .i64 0, .slice none 0 0, .slice none 0 0] 24 (0, 0))) := Lib.hid (blk_keep hg RW4.out.swap.oa.row E4.out t24)
            have z5 : w5.heap.size ≤ u5.heap.size := S5.out.size
            (refine hK.out _ _ S5.out (fun hHeld2 => ?_); clear hK K hHeld; have hHeld := hHeld2; clear hHeld2; try simp only [Act.put, List.getElem_toArray, List.getElem_cons_zero, List.getElem_cons_succ, List.setIfInBounds_toArray, List.set_cons_zero, List.set_cons_succ])
            simp only [Nat.zero_add]
            clear hown hown2 hg hl hl2 hb
            (refine wpAnyH_take (i := 10) (oi := _) (v := ?_) rfl (by kernel_rfl) (by kernel_rfl) (by kernel_rfl) (fun _ _ _ h => h) (Or.inl ⟨?_, ?_⟩) (by assumption) ?_; rotate_left; (focus (first | rfl | (simp [Region.wanted, yielded]; done))); (focus (intro w hSw; (try dsimp only at hSw); go_simp; all_goals (with_reducible rfl))); try simp only [Act.put, List.getElem_toArray, List.getElem_cons_zero, List.getElem_cons_succ, List.setIfInBounds_toArray, List.set_cons_zero, List.set_cons_succ])
            obtain ⟨y0, y1, y2⟩ := cells3 E5.out
            have f0 := free_blk E5.out 0
            have f1 := free_blk E5.out 1
            have f2 := free_blk E5.out 2
            (refine wpAnyH_ready (rs := [12]) (by kernel_rfl) (by simp) ?_; refine AllReadyH.cons (o := _) rfl (fun K hK => ?_) AllReadyH.nil; go_simp)
            (refine hK.out _ _ (Below.setCell (Below.setCell (Below.setCell S5.out (p := ⟨e5, 0, none⟩) ze _) (p := ⟨e5, 1, none⟩) ze _) (p := ⟨e5, 2, none⟩) ze _) (fun hHeld2 => ?_); clear hK K hHeld; have hHeld := hHeld2; clear hHeld2; try simp only [Act.put, List.getElem_toArray, List.getElem_cons_zero, List.getElem_cons_succ, List.setIfInBounds_toArray, List.set_cons_zero, List.set_cons_succ])
            (refine wpAnyH_done (by kernel_rfl) ?_ _; refine NoPanic.normal ?_)
            clear hHeld y0 y1 y2 f0 f1 f2
            go_wp2_with fail
            go_meet
            exact ⟨e5, ca, cb, Aa, Ab, rfl, Lib.hid (row_put (row_put (row_put E5.out _) _) _), Lib.hid (((RW5.out.set_ E5.out t24 0 _).set_ (row_put E5.out _) t24 1 _).set_ (row_put (row_put E5.out _) _) t24 2 _), Lib.hid (Below.setCell (Below.setCell (Below.setCell S5.out (p := ⟨e5, 0, none⟩) ze _) (p := ⟨e5, 1, none⟩) ze _) (p := ⟨e5, 2, none⟩) ze _), Lib.hid ze⟩
          · skip
            go_simp
            (refine hK.out _ _ (Below.alloc hHeld z2 _) (fun hHeld2 => ?_); clear hK K hHeld; have hHeld := hHeld2; clear hHeld2; try simp only [Act.put, List.getElem_toArray, List.getElem_cons_zero, List.getElem_cons_succ, List.setIfInBounds_toArray, List.set_cons_zero, List.set_cons_succ])
            obtain ⟨gb, hg⟩ : ∃ g, u2.heap.size = g := ⟨_, rfl⟩
            obtain ⟨u3, hu⟩ : ∃ x, x = u2.alloc (.cells #[] 9) := ⟨_, rfl⟩
            have RW3 : Hid (R3 u3 w5.heap.size (.slice (some ⟨ga, 0, none⟩) 0 0) (.slice (some ⟨gb, 0, none⟩) 0 0) (.slice none 0 0) [] [] []) := Lib.hid (by rw [hu, ← hg]; exact (R3.fresh RW2.out.swap z2).swap)
            have S3 : Hid (Below w5.heap.size w5 u3) := Lib.hid (by rw [hu]; exact S2.out.alloc z2 _)
            have E3 : Hid (u3.heap[e5]? = some (.cells #[.int .i64 0, .slice none 0 0, .slice none 0 0] 24 (0, 0))) := Lib.hid (by rw [hu]; exact (alloc_old _ _ (lt_of_block E2.out)).trans E2.out)
            have z3 : w5.heap.size ≤ u3.heap.size := S3.out.size
            rw [← hu] at hHeld ⊢
            rw [hg]
            clear hu hg
            (refine wpAnyH_ready (rs := [5]) (by kernel_rfl) (by simp) ?_; refine AllReadyH.cons (o := _) rfl (fun K hK => ?_) AllReadyH.nil)
            refine step_appR (by simp [Region.wanted, yielded]) (.tmp 73) (.tmp 75) 22 rfl Tryd.underlying22 info_str rfl w5.heap.size (.slice (some ⟨ga, 0, none⟩) 0 0) 0 _ A1 18 c1 (sv SG) (sv_cells _) rfl rfl RW3.out.oa.row (RA.out.below (S3.out)) (by rw [sv_len, sl.out]) z3 (by omega) (by omega) ?_
            intro Aa ca u4 hown hg hl hb
            have hown2 : u4.ownsRow w5.heap.size 9 1 (.slice Aa 18 ca) 18 (sv SG) := by have t := hown; rw [Nat.zero_add] at t; exact t
            have hl2 : ∀ g, (Value.slice Aa 18 ca).ownBlock = some g → _ := fun g e => hl g (by rw [Nat.zero_add]; exact e)
            have S4 : Hid (Below w5.heap.size w5 u4) := Lib.hid (S3.out.trans hb)
            have RW4 : Hid (R3 u4 w5.heap.size (.slice Aa 18 ca) (.slice (some ⟨gb, 0, none⟩) 0 0) (.slice none 0 0) SG [] []) := Lib.hid (R3.grow RW3.out (X' := SG) ⟨18, by rw [sl.out], hown2⟩ hg hl2)
            have E4 : Hid (u4.heap[e5]? = some (.cells #[.int .i64 0, .slice none 0 0, .slice none 0 0] 24 (0, 0))) := Lib.hid (blk_keep hg RW3.out.oa.row E3.out t24)
            have z4 : w5.heap.size ≤ u4.heap.size := S4.out.size
            (refine hK.out _ _ S4.out (fun hHeld2 => ?_); clear hK K hHeld; have hHeld := hHeld2; clear hHeld2; try simp only [Act.put, List.getElem_toArray, List.getElem_cons_zero, List.getElem_cons_succ, List.setIfInBounds_toArray, List.set_cons_zero, List.set_cons_succ])
            simp only [Nat.zero_add]
            clear hown hown2 hg hl hl2 hb
            (refine wpAnyH_ready (rs := [9]) (by kernel_rfl) (by simp) ?_; refine AllReadyH.cons (o := _) rfl (fun K hK => ?_) AllReadyH.nil)
            refine step_appR (by simp [Region.wanted, yielded]) (.tmp 77) (.tmp 79) 22 rfl Tryd.underlying22 info_str rfl w5.heap.size (.slice (some ⟨gb, 0, none⟩) 0 0) 0 _ A2 h c2 (sv PT) (sv_cells _) rfl rfl RW4.out.swap.oa.row (RB.out.below (S4.out)) (by rw [sv_len, pl.out]) z4 (by omega) (by omega) ?_
            intro Ab cb u5 hown hg hl hb
            have hown2 : u5.ownsRow w5.heap.size 9 1 (.slice Ab h cb) h (sv PT) := by have t := hown; rw [Nat.zero_add] at t; exact t
            have hl2 : ∀ g, (Value.slice Ab h cb).ownBlock = some g → _ := fun g e => hl g (by rw [Nat.zero_add]; exact e)
            have S5 : Hid (Below w5.heap.size w5 u5) := Lib.hid (S4.out.trans hb)
            have RW5 : Hid (R3 u5 w5.heap.size (.slice Aa 18 ca) (.slice Ab h cb) (.slice none 0 0) SG PT []) := Lib.hid ((R3.grow RW4.out.swap (X' := PT) ⟨h, by rw [pl.out], hown2⟩ hg hl2).swap)
            have E5 : Hid (u5.heap[e5]? = some (.cells #[.int .i64 0, .slice none 0 0, .slice none 0 0] 24 (0, 0))) := Lib.hid (blk_keep hg RW4.out.swap.oa.row E4.out t24)
            have z5 : w5.heap.size ≤ u5.heap.size := S5.out.size
            (refine hK.out _ _ S5.out (fun hHeld2 => ?_); clear hK K hHeld; have hHeld := hHeld2; clear hHeld2; try simp only [Act.put, List.getElem_toArray, List.getElem_cons_zero, List.getElem_cons_succ, List.setIfInBounds_toArray, List.set_cons_zero, List.set_cons_succ])
            simp only [Nat.zero_add]
            clear hown hown2 hg hl hl2 hb
            (refine wpAnyH_take (i := 10) (oi := _) (v := ?_) rfl (by kernel_rfl) (by kernel_rfl) (by kernel_rfl) (fun _ _ _ h => h) (Or.inl ⟨?_, ?_⟩) (by assumption) ?_; rotate_left; (focus (first | rfl | (simp [Region.wanted, yielded]; done))); (focus (intro w hSw; (try dsimp only at hSw); go_simp; all_goals (with_reducible rfl))); try simp only [Act.put, List.getElem_toArray, List.getElem_cons_zero, List.getElem_cons_succ, List.setIfInBounds_toArray, List.set_cons_zero, List.set_cons_succ])
            obtain ⟨y0, y1, y2⟩ := cells3 E5.out
            have f0 := free_blk E5.out 0
            have f1 := free_blk E5.out 1
            have f2 := free_blk E5.out 2
            (refine wpAnyH_ready (rs := [12]) (by kernel_rfl) (by simp) ?_; refine AllReadyH.cons (o := _) rfl (fun K hK => ?_) AllReadyH.nil; go_simp)
            (refine hK.out _ _ (Below.setCell (Below.setCell (Below.setCell S5.out (p := ⟨e5, 0, none⟩) ze _) (p := ⟨e5, 1, none⟩) ze _) (p := ⟨e5, 2, none⟩) ze _) (fun hHeld2 => ?_); clear hK K hHeld; have hHeld := hHeld2; clear hHeld2; try simp only [Act.put, List.getElem_toArray, List.getElem_cons_zero, List.getElem_cons_succ, List.setIfInBounds_toArray, List.set_cons_zero, List.set_cons_succ])
            (refine wpAnyH_done (by kernel_rfl) ?_ _; refine NoPanic.normal ?_)
            clear hHeld y0 y1 y2 f0 f1 f2
            go_wp2_with fail
            go_meet
            exact ⟨e5, ca, cb, Aa, Ab, rfl, Lib.hid (row_put (row_put (row_put E5.out _) _) _), Lib.hid (((RW5.out.set_ E5.out t24 0 _).set_ (row_put E5.out _) t24 1 _).set_ (row_put (row_put E5.out _) _) t24 2 _), Lib.hid (Below.setCell (Below.setCell (Below.setCell S5.out (p := ⟨e5, 0, none⟩) ze _) (p := ⟨e5, 1, none⟩) ze _) (p := ⟨e5, 2, none⟩) ze _), Lib.hid ze⟩
        · skip
          go_simp
          (refine hK.out _ _ (Below.alloc hHeld z1 _) (fun hHeld2 => ?_); clear hK K hHeld; have hHeld := hHeld2; clear hHeld2; try simp only [Act.put, List.getElem_toArray, List.getElem_cons_zero, List.getElem_cons_succ, List.setIfInBounds_toArray, List.set_cons_zero, List.set_cons_succ])
          obtain ⟨gb, hg⟩ : ∃ g, u1.heap.size = g := ⟨_, rfl⟩
          obtain ⟨u2, hu⟩ : ∃ x, x = u1.alloc (.cells #[] 9) := ⟨_, rfl⟩
          have RW2 : Hid (R3 u2 w5.heap.size (.slice none 0 0) (.slice (some ⟨gb, 0, none⟩) 0 0) (.slice none 0 0) [] [] []) := Lib.hid (by rw [hu, ← hg]; exact (R3.fresh RW1.out.swap z1).swap)
          have S2 : Hid (Below w5.heap.size w5 u2) := Lib.hid (by rw [hu]; exact S1.out.alloc z1 _)
          have E2 : Hid (u2.heap[e5]? = some (.cells #[.int .i64 0, .slice none 0 0, .slice none 0 0] 24 (0, 0))) := Lib.hid (by rw [hu]; exact (alloc_old _ _ (lt_of_block E1.out)).trans E1.out)
          have z2 : w5.heap.size ≤ u2.heap.size := S2.out.size
          rw [← hu] at hHeld ⊢
          rw [hg]
          clear hu hg
          (refine wpAnyH_ready (rs := [2]) (by kernel_rfl) (by simp) ?_; refine AllReadyH.cons (o := _) rfl (fun K hK => ?_) AllReadyH.nil)
          go_simp
          (refine hK.out _ _ (Below.alloc hHeld z2 _) (fun hHeld2 => ?_); clear hK K hHeld; have hHeld := hHeld2; clear hHeld2; try simp only [Act.put, List.getElem_toArray, List.getElem_cons_zero, List.getElem_cons_succ, List.setIfInBounds_toArray, List.set_cons_zero, List.set_cons_succ])
          obtain ⟨ga, hg⟩ : ∃ g, u2.heap.size = g := ⟨_, rfl⟩
          obtain ⟨u3, hu⟩ : ∃ x, x = u2.alloc (.cells #[] 9) := ⟨_, rfl⟩
          have RW3 : Hid (R3 u3 w5.heap.size (.slice (some ⟨ga, 0, none⟩) 0 0) (.slice (some ⟨gb, 0, none⟩) 0 0) (.slice none 0 0) [] [] []) := Lib.hid (by rw [hu, ← hg]; exact R3.fresh RW2.out z2)
          have S3 : Hid (Below w5.heap.size w5 u3) := Lib.hid (by rw [hu]; exact S2.out.alloc z2 _)
          have E3 : Hid (u3.heap[e5]? = some (.cells #[.int .i64 0, .slice none 0 0, .slice none 0 0] 24 (0, 0))) := Lib.hid (by rw [hu]; exact (alloc_old _ _ (lt_of_block E2.out)).trans E2.out)
          have z3 : w5.heap.size ≤ u3.heap.size := S3.out.size
          rw [← hu] at hHeld ⊢
          rw [hg]
          clear hu hg
          (refine wpAnyH_ready (rs := [5]) (by kernel_rfl) (by simp) ?_; refine AllReadyH.cons (o := _) rfl (fun K hK => ?_) AllReadyH.nil)
          refine step_appR (by simp [Region.wanted, yielded]) (.tmp 73) (.tmp 75) 22 rfl Tryd.underlying22 info_str rfl w5.heap.size (.slice (some ⟨ga, 0, none⟩) 0 0) 0 _ A1 18 c1 (sv SG) (sv_cells _) rfl rfl RW3.out.oa.row (RA.out.below (S3.out)) (by rw [sv_len, sl.out]) z3 (by omega) (by omega) ?_
          intro Aa ca u4 hown hg hl hb
          have hown2 : u4.ownsRow w5.heap.size 9 1 (.slice Aa 18 ca) 18 (sv SG) := by have t := hown; rw [Nat.zero_add] at t; exact t
          have hl2 : ∀ g, (Value.slice Aa 18 ca).ownBlock = some g → _ := fun g e => hl g (by rw [Nat.zero_add]; exact e)
          have S4 : Hid (Below w5.heap.size w5 u4) := Lib.hid (S3.out.trans hb)
          have RW4 : Hid (R3 u4 w5.heap.size (.slice Aa 18 ca) (.slice (some ⟨gb, 0, none⟩) 0 0) (.slice none 0 0) SG [] []) := Lib.hid (R3.grow RW3.out (X' := SG) ⟨18, by rw [sl.out], hown2⟩ hg hl2)
          have E4 : Hid (u4.heap[e5]? = some (.cells #[.int .i64 0, .slice none 0 0, .slice none 0 0] 24 (0, 0))) := Lib.hid (blk_keep hg RW3.out.oa.row E3.out t24)
          have z4 : w5.heap.size ≤ u4.heap.size := S4.out.size
          (refine hK.out _ _ S4.out (fun hHeld2 => ?_); clear hK K hHeld; have hHeld := hHeld2; clear hHeld2; try simp only [Act.put, List.getElem_toArray, List.getElem_cons_zero, List.getElem_cons_succ, List.setIfInBounds_toArray, List.set_cons_zero, List.set_cons_succ])
          simp only [Nat.zero_add]
          clear hown hown2 hg hl hl2 hb
          (refine wpAnyH_ready (rs := [9]) (by kernel_rfl) (by simp) ?_; refine AllReadyH.cons (o := _) rfl (fun K hK => ?_) AllReadyH.nil)
          refine step_appR (by simp [Region.wanted, yielded]) (.tmp 77) (.tmp 79) 22 rfl Tryd.underlying22 info_str rfl w5.heap.size (.slice (some ⟨gb, 0, none⟩) 0 0) 0 _ A2 h c2 (sv PT) (sv_cells _) rfl rfl RW4.out.swap.oa.row (RB.out.below (S4.out)) (by rw [sv_len, pl.out]) z4 (by omega) (by omega) ?_
          intro Ab cb u5 hown hg hl hb
          have hown2 : u5.ownsRow w5.heap.size 9 1 (.slice Ab h cb) h (sv PT) := by have t := hown; rw [Nat.zero_add] at t; exact t
          have hl2 : ∀ g, (Value.slice Ab h cb).ownBlock = some g → _ := fun g e => hl g (by rw [Nat.zero_add]; exact e)
          have S5 : Hid (Below w5.heap.size w5 u5) := Lib.hid (S4.out.trans hb)
          have RW5 : Hid (R3 u5 w5.heap.size (.slice Aa 18 ca) (.slice Ab h cb) (.slice none 0 0) SG PT []) := Lib.hid ((R3.grow RW4.out.swap (X' := PT) ⟨h, by rw [pl.out], hown2⟩ hg hl2).swap)
          have E5 : Hid (u5.heap[e5]? = some (.cells #[.int .i64 0, .slice none 0 0, .slice none 0 0] 24 (0, 0))) := Lib.hid (blk_keep hg RW4.out.swap.oa.row E4.out t24)
          have z5 : w5.heap.size ≤ u5.heap.size := S5.out.size
          (refine hK.out _ _ S5.out (fun hHeld2 => ?_); clear hK K hHeld; have hHeld := hHeld2; clear hHeld2; try simp only [Act.put, List.getElem_toArray, List.getElem_cons_zero, List.getElem_cons_succ, List.setIfInBounds_toArray, List.set_cons_zero, List.set_cons_succ])
          simp only [Nat.zero_add]
          clear hown hown2 hg hl hl2 hb
          (refine wpAnyH_take (i := 10) (oi := _) (v := ?_) rfl (by kernel_rfl) (by kernel_rfl) (by kernel_rfl) (fun _ _ _ h => h) (Or.inl ⟨?_, ?_⟩) (by assumption) ?_; rotate_left; (focus (first | rfl | (simp [Region.wanted, yielded]; done))); (focus (intro w hSw; (try dsimp only at hSw); go_simp; all_goals (with_reducible rfl))); try simp only [Act.put, List.getElem_toArray, List.getElem_cons_zero, List.getElem_cons_succ, List.setIfInBounds_toArray, List.set_cons_zero, List.set_cons_succ])
          obtain ⟨y0, y1, y2⟩ := cells3 E5.out
          have f0 := free_blk E5.out 0
          have f1 := free_blk E5.out 1
          have f2 := free_blk E5.out 2
          (refine wpAnyH_ready (rs := [12]) (by kernel_rfl) (by simp) ?_; refine AllReadyH.cons (o := _) rfl (fun K hK => ?_) AllReadyH.nil; go_simp)
          (refine hK.out _ _ (Below.setCell (Below.setCell (Below.setCell S5.out (p := ⟨e5, 0, none⟩) ze _) (p := ⟨e5, 1, none⟩) ze _) (p := ⟨e5, 2, none⟩) ze _) (fun hHeld2 => ?_); clear hK K hHeld; have hHeld := hHeld2; clear hHeld2; try simp only [Act.put, List.getElem_toArray, List.getElem_cons_zero, List.getElem_cons_succ, List.setIfInBounds_toArray, List.set_cons_zero, List.set_cons_succ])
          (refine wpAnyH_done (by kernel_rfl) ?_ _; refine NoPanic.normal ?_)
          clear hHeld y0 y1 y2 f0 f1 f2
          go_wp2_with fail
          go_meet
          exact ⟨e5, ca, cb, Aa, Ab, rfl, Lib.hid (row_put (row_put (row_put E5.out _) _) _), Lib.hid (((RW5.out.set_ E5.out t24 0 _).set_ (row_put E5.out _) t24 1 _).set_ (row_put (row_put E5.out _) _) t24 2 _), Lib.hid (Below.setCell (Below.setCell (Below.setCell S5.out (p := ⟨e5, 0, none⟩) ze _) (p := ⟨e5, 1, none⟩) ze _) (p := ⟨e5, 2, none⟩) ze _), Lib.hid ze⟩
    case rest =>
      obtain ⟨e5, ca, cb, Aa, Ab, rfl, hE, hR, hB, HE5⟩ := hcut
      obtain ⟨wx, hwx⟩ : ∃ wx, wx = wc := ⟨_, rfl⟩
      rw [← hwx] at hE hR hB ⊢
      clear hwx wc
      have hz255 := HZ.out
      obtain ⟨dd, hdd⟩ : ∃ d, 19 + h = d := ⟨_, rfl⟩
      obtain ⟨kk, HK⟩ : ∃ k, Hid (p3 % dd = k) := ⟨_, Lib.hid rfl⟩
      have hkd : kk < dd := by rw [← HK.out]; exact Nat.mod_lt _ (by omega)
      have wa : IntKind.i64.wrap (p3 : Int) = (p3 : Int) := IntWalk.i64_in _ (by omega)
      have wb : IntKind.i64.wrap (19 + (h : Int)) = (dd : Int) := by rw [IntWalk.i64_in _ (by omega)]; omega
      have nd : ¬ (dd : Int) = 0 := by omega
      have nd2 : (1 : Int) ≤ (dd : Int) := by omega
      have p30 : (0 : Int) ≤ (p3 : Int) := by omega
      have T3 : Hid ((p3 : Int).tmod (dd : Int) = (kk : Int)) := Lib.hid (by rw [Int.tmod_eq_emod_of_nonneg p30, ← HK.out]; rfl)
      have hk18h : kk < 19 + h := by omega
      have HDD := Lib.hid hdd
      clear hdd hz255
      have t3 := T3.out
      go_upto_region 12 with fail
      clear t3 wa wb nd nd2 p30
      go_upto_if 88 with fail
      have hqw : q < w5.heap.size := lt_of_block G.out
      have hqx : q < wx.heap.size := Nat.lt_of_lt_of_le hqw hB.out.size
      have GX := Lib.hid ((hB.out.block q hqw).trans G.out)
      go_cut [20] (fun s20 wy => ∃ (jj cc cd : Nat) (Ac Ad : Option Addr) (S' P' : List (List UInt8)), s20 = .pointer (some ⟨e5, 0, none⟩) ∧ Hid (BadS w5 wy e5 i h SG jj cc cd Ac Ad S' P'))
      case first =>
        have lo : o.data.toList.length ≤ 300 := by rw [← Lib.size_eq]; exact ho
        have MO : Hid (mkB o.data.toList = o) := Lib.hid (mkB_of o)
        by_cases hk18 : kk < 18
        · have d1 : (kk : Int) < 18 := by omega
          obtain ⟨ga, rfl, hga, hga2⟩ := own_some hR.out.oa (by decide)
          obtain ⟨cur, -, hcur, -⟩ := hR.out.oa.blk
          obtain ⟨b', f', e', hb', hcell⟩ := hR.out.oa.rd (by rw [sv_len, sl.out]; decide)
          cases e'
          have hc := hcell kk _ (getD_at (by rw [sl.out]; exact hk18))
          rw [Nat.zero_add] at hc
          have hf := free_blk hcur kk
          obtain ⟨x0, x1, x2⟩ := cells3 hE.out
          have nE : e5 ≠ ga := by
            intro e
            have h1 := hE.out
            rw [e, hcur] at h1
            cases h1
          have BD : Hid (BadS w5 (wx.setCell ⟨ga, kk, none⟩ (.string o)) e5 i h SG i ca cb (some ⟨ga, 0, none⟩) Ab (SG.set kk o.data.toList) PT) := Lib.hid
            ⟨(Below.heap_setCell _ _ _ _ nE).trans hE.out, by have := own_put (k := kk) (y := o.data.toList) hR.out.oa; rwa [MO.out] at this, rd_setFar hR.out.ob.rd (fun p hp e => hR.out.ab ga rfl (by rw [← e]; exact own_blk_of hR.out.ob hp)) _, by rw [List.length_set]; exact sl.out, pl.out, set_300 sd.out lo, pd.out, .inl rfl, hB.out.setCell (by show w5.heap.size ≤ ga; exact hga) _⟩
          clear hcell hcur hb' hk18
          go_wp2_with fail
          go_meet
          exact ⟨i, ca, cb, _, _, _, _, rfl, BD⟩
        · have d1 : ¬ (kk : Int) < 18 := by omega
          have wc18 : IntKind.i64.wrap (18 + (h : Int)) = 18 + (h : Int) := IntWalk.i64_in _ (by omega)
          by_cases hkh : kk < 18 + h
          · have d2 : (kk : Int) < 18 + (h : Int) := by omega
            obtain ⟨k2, hk2⟩ : ∃ k2, kk = 18 + k2 := ⟨kk - 18, by omega⟩
            have w18 : IntKind.i64.wrap ((kk : Int) - 18) = (k2 : Int) := by rw [IntWalk.i64_in _ (by omega)]; omega
            have j1 : (k2 : Int) < (h : Int) := by omega
            have h0 : k2 < h := by omega
            obtain ⟨gb, rfl, hgb, hgb2⟩ := own_some hR.out.ob (by omega)
            obtain ⟨cur, -, hcur, -⟩ := hR.out.ob.blk
            obtain ⟨b', f', e', hb', hcell⟩ := hR.out.ob.rd (by rw [sv_len, pl.out]; omega)
            cases e'
            have hc := hcell k2 _ (getD_at (by rw [pl.out]; exact h0))
            rw [Nat.zero_add] at hc
            have hf := free_blk hcur k2
            obtain ⟨x0, x1, x2⟩ := cells3 hE.out
            have nE : e5 ≠ gb := by
              intro e
              have h1 := hE.out
              rw [e, hcur] at h1
              cases h1
            have BD : Hid (BadS w5 (wx.setCell ⟨gb, k2, none⟩ (.string o)) e5 i h SG i ca cb Aa (some ⟨gb, 0, none⟩) SG (PT.set k2 o.data.toList)) := Lib.hid
              ⟨(Below.heap_setCell _ _ _ _ nE).trans hE.out, rd_setFar hR.out.oa.rd (fun p hp e => hR.out.ab gb (by rw [← e]; exact own_blk_of hR.out.oa hp) rfl) _, by have := own_put (k := k2) (y := o.data.toList) hR.out.ob; rwa [MO.out] at this, sl.out, by rw [List.length_set]; exact pl.out, sd.out, set_300 pd.out lo, .inl rfl, hB.out.setCell (by show w5.heap.size ≤ gb; exact hgb) _⟩
            clear hcell hcur hb' hk18 hkh hk2
            go_wp2_with fail
            go_meet
            exact ⟨i, ca, cb, _, _, _, _, rfl, BD⟩
          · have d2 : ¬ (kk : Int) < 18 + (h : Int) := by omega
            obtain ⟨jj, HJ⟩ : ∃ j, Hid ((i + 1) % n = j) := ⟨_, Lib.hid rfl⟩
            have wi : IntKind.i64.wrap ((i : Int) + 1) = (i : Int) + 1 := IntWalk.i64_in _ (by omega)
            have t4 : ((i : Int) + 1).tmod (n : Int) = (jj : Int) := by rw [Int.tmod_eq_emod_of_nonneg (by omega), ← HJ.out]; rfl
            have nN : ¬ n = 0 := Nat.ne_of_gt n0
            have ne5 : ¬ (q = e5) := fun e => Nat.lt_irrefl _ (Nat.lt_of_lt_of_le (e ▸ hqw) HE5.out)
            obtain ⟨PW, PW2⟩ := HPW.out
            have C0 : ∀ w', But (fun k => k = e5) wx w' → w'.cell? ⟨q, 0, none⟩ = some (.int .i64 i) := fun w' h => h.c ne5 (cells3 GX.out).1
            have m0 := (cells3 hE.out).1
            have mf := free_blk hE.out 0
            have BD : Hid (BadS w5 ((wx.setCell ⟨e5, 0, none⟩ (.int .i64 (jj : Int))).drew) e5 i h SG jj ca cb Aa Ab SG PT) := Lib.hid
              ⟨row_put hE.out _, rd_setFar hR.out.oa.rd (fun p hp e => own_type hR.out.oa hp (e ▸ hE.out) t24) _, rd_setFar hR.out.ob.rd (fun p hp e => own_type hR.out.ob hp (e ▸ hE.out) t24) _, sl.out, pl.out, sd.out, pd.out, .inr rfl, (hB.out.setCell (by show w5.heap.size ≤ e5; exact HE5.out) _).drew⟩
            go_wp2_with fail
            (refine wp_region_noPanic ?_; refine wp_region_held_drew (S := (fun w' => But (fun k => k = e5) wx w')) (by kernel_rfl) ?_ (fun hHeld => ?_); exact (But.drew (But.refl _ _)))
            (refine wpAnyH_take (i := 0) (oi := _) (v := ?_) rfl (by kernel_rfl) (by kernel_rfl) (by kernel_rfl) (fun _ _ _ h => h) (Or.inl ⟨?_, ?_⟩) (by assumption) ?_; rotate_left; (focus (first | rfl | (simp [Region.wanted, yielded]; done))); (focus (intro w hSw; (try dsimp only at hSw); go_simp; all_goals (with_reducible rfl))); try simp only [Act.put, List.getElem_toArray, List.getElem_cons_zero, List.getElem_cons_succ, List.setIfInBounds_toArray, List.set_cons_zero, List.set_cons_succ])
            (refine wpAnyH_take (i := 1) (oi := _) (v := ?_) rfl (by kernel_rfl) (by kernel_rfl) (by kernel_rfl) (fun _ _ _ h => h) (Or.inl ⟨?_, ?_⟩) (by assumption) ?_; rotate_left; (focus (first | rfl | (simp [Region.wanted, yielded]; done))); (focus (intro w hSw; (try dsimp only at hSw); go_simp; all_goals (with_reducible rfl))); try simp only [Act.put, List.getElem_toArray, List.getElem_cons_zero, List.getElem_cons_succ, List.setIfInBounds_toArray, List.set_cons_zero, List.set_cons_succ])
            (refine wpAnyH_take (i := 2) (oi := _) (v := ?_) rfl (by kernel_rfl) (by kernel_rfl) (by kernel_rfl) (fun _ _ _ h => h) (Or.inl ⟨?_, ?_⟩) (by assumption) ?_; rotate_left; (focus (first | rfl | (simp [Region.wanted, yielded]; done))); (focus (intro w hSw; (try dsimp only at hSw); go_simp; all_goals (with_reducible rfl))); try simp only [Act.put, List.getElem_toArray, List.getElem_cons_zero, List.getElem_cons_succ, List.setIfInBounds_toArray, List.set_cons_zero, List.set_cons_succ])
            (refine wpAnyH_take (i := 3) (oi := _) (v := ?_) rfl (by kernel_rfl) (by kernel_rfl) (by kernel_rfl) (fun _ _ _ h => h) (Or.inl ⟨?_, ?_⟩) (by assumption) ?_; rotate_left; (focus (first | rfl | (simp [Region.wanted, yielded]; done))); (focus (intro w hSw; (try dsimp only at hSw); go_simp; all_goals (with_reducible rfl))); try simp only [Act.put, List.getElem_toArray, List.getElem_cons_zero, List.getElem_cons_succ, List.setIfInBounds_toArray, List.set_cons_zero, List.set_cons_succ])
            (refine wpAnyH_take (i := 4) (oi := _) (v := ?_) rfl (by kernel_rfl) (by kernel_rfl) (by kernel_rfl) (fun _ _ _ h => h) (Or.inl ⟨?_, ?_⟩) (by assumption) ?_; rotate_left; (focus (first | rfl | (simp [Region.wanted, yielded]; done))); (focus (intro w hSw; (try dsimp only at hSw); go_simp; all_goals (with_reducible rfl))); try simp only [Act.put, List.getElem_toArray, List.getElem_cons_zero, List.getElem_cons_succ, List.setIfInBounds_toArray, List.set_cons_zero, List.set_cons_succ])
            (refine wpAnyH_take (i := 5) (oi := _) (v := ?_) rfl (by kernel_rfl) (by kernel_rfl) (by kernel_rfl) (fun _ _ _ h => h) (Or.inl ⟨?_, ?_⟩) (by assumption) ?_; rotate_left; (focus (first | rfl | (simp [Region.wanted, yielded]; done))); (focus (intro w hSw; (try dsimp only at hSw); go_simp; all_goals (with_reducible rfl))); try simp only [Act.put, List.getElem_toArray, List.getElem_cons_zero, List.getElem_cons_succ, List.setIfInBounds_toArray, List.set_cons_zero, List.set_cons_succ])
            (refine wpAnyH_take (i := 6) (oi := _) (v := ?_) rfl (by kernel_rfl) (by kernel_rfl) (by kernel_rfl) (fun _ _ _ h => h) (Or.inl ⟨?_, ?_⟩) (by assumption) ?_; rotate_left; (focus (first | rfl | (simp [Region.wanted, yielded]; done))); (focus (intro w hSw; (try dsimp only at hSw); go_simp; all_goals (with_reducible rfl))); try simp only [Act.put, List.getElem_toArray, List.getElem_cons_zero, List.getElem_cons_succ, List.setIfInBounds_toArray, List.set_cons_zero, List.set_cons_succ])
            (refine wpAnyH_ready (rs := [7]) (by kernel_rfl) (by simp) ?_; refine AllReadyH.cons (o := _) rfl (fun K hK => ?_) AllReadyH.nil; go_simp)
            (refine hK.out _ _ (But.drew (But.set (X := fun k => k = e5) (But.refl _ _) (p := ⟨e5, 0, none⟩) rfl _)) (fun hHeld2 => ?_); clear hK K hHeld; have hHeld := hHeld2; clear hHeld2; try simp only [Act.put, List.getElem_toArray, List.getElem_cons_zero, List.getElem_cons_succ, List.setIfInBounds_toArray, List.set_cons_zero, List.set_cons_succ])
            (refine wpAnyH_done (by kernel_rfl) ?_ _; refine NoPanic.normal ?_)
            clear hHeld
            go_wp2_with fail
            go_meet
            exact ⟨jj, ca, cb, _, _, _, _, rfl, BD⟩
      case rest =>
        obtain ⟨jj, cc, cd, Ac, Ad, S', P', rfl, hbad⟩ := hcut
        obtain ⟨wy, hwy⟩ : ∃ wy, wy = wc := ⟨_, rfl⟩
        rw [← hwy] at hbad ⊢
        clear hwy wc
        have GY := Lib.hid ((hbad.out.bel.block q hqw).trans G.out)
        have BY := Lib.hid (B4a.out.trans (hbad.out.bel.mono B4a.out.size))
        have Q1 := Lib.hid (R1.out.below hbad.out.bel); have Q2 := Lib.hid (R2.out.below hbad.out.bel)
        have l2' : P'.length ≤ 1000 := by rw [hbad.out.l2]; omega
        have SM : Hid (Calls Tryd.prog 17 #[.agg #[.int .i64 jj, .slice Ac 18 cc, .slice Ad h cd], .agg #[.int .i64 i, .slice A1 18 c1, .slice A2 h c2]] wy fun e w' => e = .returned (.bool (same2F jj i S' SG P' PT)) ∧ Below wy.heap.size wy w') := Lib.hid (by
          have := same2_any (jj : Int) (i : Int) Ac Ad A1 A2 cc cd c1 c2 S' SG P' PT wy (by rw [hbad.out.l1]; decide) (by rw [sl.out]; decide) l2' (by rw [pl.out]; omega) hbad.out.r1 hbad.out.r2 Q1.out Q2.out
          rw [hbad.out.l1, hbad.out.l2, sl.out, pl.out] at this
          exact this)
        have VA : Hid (∀ u, Below wy.heap.size wy u → Calls Tryd.prog 18 #[.string (mkB PU), .string m, .agg #[.int .i64 jj, .slice Ac 18 cc, .slice Ad h cd]] u fun e w' => e = .returned (.bool (verB PU m.data.toList (jj : Int) S' P')) ∧ Below u.heap.size u w') := Lib.hid (fun u hu => by
          have := verify_any (mkB PU) m (jj : Int) Ac Ad cc cd S' P' u (by omega) ⟨hbad.out.r1.below hu, by rw [hbad.out.l1]; decide, hbad.out.z1⟩ ⟨hbad.out.r2.below hu, l2', hbad.out.z2⟩ (HT.out.keep (BY.out.trans (hu.mono BY.out.size)))
          rw [mkB_list, hbad.out.l1, hbad.out.l2] at this
          exact this)
        have NI := Lib.hid (CHG.out jj S' P' hbad.out.l1 hbad.out.same)
        have VF : Hid (verB PU m.data.toList (jj : Int) S' P' = true → jj ≤ 256) := Lib.hid (fun hv => by
          obtain ⟨f1, f2, f3, f4, f5, f6, f7, f8⟩ := ver_facts hv
          have := pow_le8 f2
          omega)
        have CE : Hid (jj ≤ 256 → ∀ u, Below wy.heap.size wy u → Calls Tryd.prog 24 #[.string m, .agg #[.int .i64 (jj : Int), .slice Ac 18 cc, .slice Ad h cd]] u (OwnP u (Sl.Checked m.data.toList jj S' P'))) := Lib.hid (fun hj u hu => by
          have := checked_any m jj Ac Ad cc cd S' P' u (by omega) hbad.out.l1 l2' hbad.out.z1 hbad.out.z2 (by omega) (hbad.out.r1.below hu) (hbad.out.r2.below hu) (HT.out.keep (BY.out.trans (hu.mono BY.out.size)))
          rw [hbad.out.l2] at this
          exact this)
        obtain ⟨lc0, lc⟩ := checked_len (m := m.data.toList) (i := jj) (S := S') (p := P') l2'
        have SA : Hid (¬ Sl.Inj (MD ++ Sl.Checked m.data.toList jj S' P') → ∀ u A c, Rd u A (sv (MD ++ Sl.Checked m.data.toList jj S' P')) → Calls Tryd.prog 22 #[.slice A (MD.length + (Sl.Checked m.data.toList jj S' P').length) c] u fun e w' => e = .returned (.bool true) ∧ Below u.heap.size u w') := Lib.hid (fun hI => shown_app lm (by omega) HZM.out (checked_1e6 hbad.out.z1 hbad.out.z2) hI)
        generalize Sl.Checked m.data.toList jj S' P' = CK at *
        obtain ⟨v1, hv1⟩ : ∃ v, same2F (jj : Int) (i : Int) S' SG P' PT = v := ⟨_, rfl⟩
        rw [hv1] at SM NI
        obtain ⟨v2, hv2⟩ : ∃ v, verB PU m.data.toList (jj : Int) S' P' = v := ⟨_, rfl⟩
        rw [hv2] at VA NI VF
        clear hv1 hv2 CHG
        have GE := Lib.hid hbad.out.blk
        obtain ⟨x0, x1, x2⟩ := cells3 GE.out
        obtain ⟨y0, y1, y2⟩ := cells3 GY.out
        clear hbad
        go_wp2_with fail
        refine SM.out.mono ?_
        rintro e w6 ⟨rfl, hb6⟩
        have B6 := Lib.hid (BY.out.trans (hb6.mono BY.out.size))
        have K6 := Lib.hid hb6
        have GE6 := Lib.hid ((hb6.block e5 (lt_of_block GE.out)).trans GE.out)
        clear hb6 x0 x1 x2 y0 y1 y2 GE GY SM
        cases v1 with
        | true =>
          go_wp2_with fail
          go_ret
          exact ⟨rfl, B6.out⟩
        | false =>
          obtain ⟨x0, x1, x2⟩ := cells3 GE6.out
          go_wp2_with fail
          refine (VA.out _ K6.out).mono ?_
          rintro e w7 ⟨rfl, hb7⟩
          have B7 := Lib.hid (B6.out.trans (hb7.mono B6.out.size))
          have K7 := Lib.hid (K6.out.trans (hb7.mono K6.out.size))
          have GE7 := Lib.hid ((hb7.block e5 (lt_of_block GE6.out)).trans GE6.out)
          clear hb7 x0 x1 x2 GE6 VA B6 K6
          cases v2 with
          | false =>
            go_wp2_with fail
            go_ret
            exact ⟨rfl, B7.out⟩
          | true =>
            have SB := Lib.hid (SA.out (NI.out (by first | rfl | trivial) (by first | rfl | trivial)))
            clear SA NI
            have SA := SB
            clear SB
            have hjj := VF.out rfl
            have CA : Hid (∀ u, Below w7.heap.size w7 u → Calls Tryd.prog 24 #[.string m, .agg #[.int .i64 (jj : Int), .slice Ac 18 cc, .slice Ad h cd]] u (OwnP u CK)) := Lib.hid (fun u hu => CE.out hjj u (K7.out.trans (hu.mono K7.out.size)))
            clear CE VF
            obtain ⟨x0, x1, x2⟩ := cells3 GE7.out
            have hq : e5 < w7.heap.size := lt_of_block GE7.out
            have C0 : ∀ w', Below w7.heap.size w7 w' → w'.cell? ⟨e5, 0, none⟩ = _ := fun w' h => (h.cell (p := ⟨e5, 0, none⟩) hq).trans x0
            have C1 : ∀ w', Below w7.heap.size w7 w' → w'.cell? ⟨e5, 1, none⟩ = _ := fun w' h => (h.cell (p := ⟨e5, 1, none⟩) hq).trans x1
            have C2 : ∀ w', Below w7.heap.size w7 w' → w'.cell? ⟨e5, 2, none⟩ = _ := fun w' h => (h.cell (p := ⟨e5, 2, none⟩) hq).trans x2
            clear x0 x1 x2
            go_wp2_with fail
            (refine wp_region_noPanic ?_; refine wp_region_held_drew (S := (fun w' => Below w7.heap.size w7 w')) (by kernel_rfl) ?_ (fun hHeld => ?_); exact ((Below.refl _ _).drew))
            (refine wpAnyH_take (i := 0) (oi := _) (v := ?_) rfl (by kernel_rfl) (by kernel_rfl) (by kernel_rfl) (fun _ _ _ h => h) (Or.inl ⟨?_, ?_⟩) (by assumption) ?_; rotate_left; (focus (first | rfl | (simp [Region.wanted, yielded]; done))); (focus (intro w hSw; (try dsimp only at hSw); go_simp; all_goals (with_reducible rfl))); try simp only [Act.put, List.getElem_toArray, List.getElem_cons_zero, List.getElem_cons_succ, List.setIfInBounds_toArray, List.set_cons_zero, List.set_cons_succ])
            (refine wpAnyH_take (i := 1) (oi := _) (v := ?_) rfl (by kernel_rfl) (by kernel_rfl) (by kernel_rfl) (fun _ _ _ h => h) (Or.inl ⟨?_, ?_⟩) (by assumption) ?_; rotate_left; (focus (first | rfl | (simp [Region.wanted, yielded]; done))); (focus (intro w hSw; (try dsimp only at hSw); go_simp; all_goals (with_reducible rfl))); try simp only [Act.put, List.getElem_toArray, List.getElem_cons_zero, List.getElem_cons_succ, List.setIfInBounds_toArray, List.set_cons_zero, List.set_cons_succ])
            (refine wpAnyH_take (i := 2) (oi := _) (v := ?_) rfl (by kernel_rfl) (by kernel_rfl) (by kernel_rfl) (fun _ _ _ h => h) (Or.inl ⟨?_, ?_⟩) (by assumption) ?_; rotate_left; (focus (first | rfl | (simp [Region.wanted, yielded]; done))); (focus (intro w hSw; (try dsimp only at hSw); go_simp; all_goals (with_reducible rfl))); try simp only [Act.put, List.getElem_toArray, List.getElem_cons_zero, List.getElem_cons_succ, List.setIfInBounds_toArray, List.set_cons_zero, List.set_cons_succ])
            (refine wpAnyH_take (i := 3) (oi := _) (v := ?_) rfl (by kernel_rfl) (by kernel_rfl) (by kernel_rfl) (fun _ _ _ h => h) (Or.inl ⟨?_, ?_⟩) (by assumption) ?_; rotate_left; (focus (first | rfl | (simp [Region.wanted, yielded]; done))); (focus (intro w hSw; (try dsimp only at hSw); go_simp; all_goals (with_reducible rfl))); try simp only [Act.put, List.getElem_toArray, List.getElem_cons_zero, List.getElem_cons_succ, List.setIfInBounds_toArray, List.set_cons_zero, List.set_cons_succ])
            (refine wpAnyH_take (i := 5) (oi := _) (v := ?_) rfl (by kernel_rfl) (by kernel_rfl) (by kernel_rfl) (fun _ _ _ h => h) (Or.inl ⟨?_, ?_⟩) (by assumption) ?_; rotate_left; (focus (first | rfl | (simp [Region.wanted, yielded]; done))); (focus (intro w hSw; (try dsimp only at hSw); go_simp; all_goals (with_reducible rfl))); try simp only [Act.put, List.getElem_toArray, List.getElem_cons_zero, List.getElem_cons_succ, List.setIfInBounds_toArray, List.set_cons_zero, List.set_cons_succ])
            (refine wpAnyH_take (i := 6) (oi := _) (v := ?_) rfl (by kernel_rfl) (by kernel_rfl) (by kernel_rfl) (fun _ _ _ h => h) (Or.inl ⟨?_, ?_⟩) (by assumption) ?_; rotate_left; (focus (first | rfl | (simp [Region.wanted, yielded]; done))); (focus (intro w hSw; (try dsimp only at hSw); go_simp; all_goals (with_reducible rfl))); try simp only [Act.put, List.getElem_toArray, List.getElem_cons_zero, List.getElem_cons_succ, List.setIfInBounds_toArray, List.set_cons_zero, List.set_cons_succ])
            (refine wpAnyH_ready (rs := [4]) (by kernel_rfl) (by simp) ?_; refine AllReadyH.cons (o := _) rfl (fun K hK => ?_) AllReadyH.nil; go_simp)
            refine (MA.out _).mono ?_
            rintro e wm ⟨Am, cm, rfl, om', hbm'⟩
            have hbm := drew_below hbm'
            have om : wm.ownsRow w7.heap.size 9 1 (.slice Am MD.length cm) MD.length (sv MD) := om'
            (refine hK.out _ _ hbm (fun hHeld2 => ?_); clear hK K hHeld; have hHeld := hHeld2; clear hHeld2; try simp only [Act.put, List.getElem_toArray, List.getElem_cons_zero, List.getElem_cons_succ, List.setIfInBounds_toArray, List.set_cons_zero, List.set_cons_succ])
            clear om' hbm' C0 C1 C2
            (refine wpAnyH_ready (rs := [7]) (by kernel_rfl) (by simp) ?_; refine AllReadyH.cons (o := _) rfl (fun K hK => ?_) AllReadyH.nil; go_simp)
            refine (CA.out _ hbm).mono ?_
            rintro e wc ⟨Ac, cc, rfl, oc, hbc⟩
            have hbm2 := hbm.trans (hbc.mono hbm.size)
            (refine hK.out _ _ hbm2 (fun hHeld2 => ?_); clear hK K hHeld; have hHeld := hHeld2; clear hHeld2; try simp only [Act.put, List.getElem_toArray, List.getElem_cons_zero, List.getElem_cons_succ, List.setIfInBounds_toArray, List.set_cons_zero, List.set_cons_succ])
            (refine wpAnyH_ready (rs := [8]) (by kernel_rfl) (by simp) ?_; refine AllReadyH.cons (o := _) rfl (fun K hK => ?_) AllReadyH.nil)
            refine step_appL (by simp [Region.wanted, yielded]) (.tmp 126) (.tmp 129) 22 rfl Tryd.underlying22 info_str rfl w7.heap.size (.slice Am MD.length cm) MD.length _ Ac CK.length cc (sv CK) (sv_cells _) rfl rfl (own_below om hbc (Nat.le_refl _)) (Rd.of_own oc) (sv_len _) lc0 (Nat.le_trans hbm.size hbc.size) (by omega) (by omega) ?_
            intro g6 c6 w6 hown6 hg6 hl6 hb6
            have hbm6 := hbm2.trans hb6
            (refine hK.out _ _ hbm6 (fun hHeld2 => ?_); clear hK K hHeld; have hHeld := hHeld2; clear hHeld2; try simp only [Act.put, List.getElem_toArray, List.getElem_cons_zero, List.getElem_cons_succ, List.setIfInBounds_toArray, List.set_cons_zero, List.set_cons_succ])
            have R6 : Rd w6 (some ⟨g6, 0, none⟩) (sv (MD ++ CK)) := by rw [sv_app]; exact Rd.of_own hown6
            (refine wpAnyH_ready (rs := [9]) (by kernel_rfl) (by simp) ?_; refine AllReadyH.cons (o := _) rfl (fun K hK => ?_) AllReadyH.nil; go_simp)
            refine (SA.out _ _ _ R6).mono ?_
            rintro e w7 ⟨rfl, hb7⟩
            have hbm7 := hbm6.trans (hb7.mono hbm6.size)
            (refine hK.out _ _ hbm7 (fun hHeld2 => ?_); clear hK K hHeld; have hHeld := hHeld2; clear hHeld2; try simp only [Act.put, List.getElem_toArray, List.getElem_cons_zero, List.getElem_cons_succ, List.setIfInBounds_toArray, List.set_cons_zero, List.set_cons_succ])
            (refine wpAnyH_take (i := 10) (oi := _) (v := ?_) rfl (by kernel_rfl) (by kernel_rfl) (by kernel_rfl) (fun _ _ _ h => h) (Or.inl ⟨?_, ?_⟩) (by assumption) ?_; rotate_left; (focus (first | rfl | (simp [Region.wanted, yielded]; done))); (focus (intro w hSw; (try dsimp only at hSw); go_simp; all_goals (with_reducible rfl))); try simp only [Act.put, List.getElem_toArray, List.getElem_cons_zero, List.getElem_cons_succ, List.setIfInBounds_toArray, List.set_cons_zero, List.set_cons_succ])
            (refine wpAnyH_take (i := 11) (oi := _) (v := ?_) rfl (by kernel_rfl) (by kernel_rfl) (by kernel_rfl) (fun _ _ _ h => h) (Or.inl ⟨?_, ?_⟩) (by assumption) ?_; rotate_left; (focus (first | rfl | (simp [Region.wanted, yielded]; done))); (focus (intro w hSw; (try dsimp only at hSw); go_simp; all_goals (with_reducible rfl))); try simp only [Act.put, List.getElem_toArray, List.getElem_cons_zero, List.getElem_cons_succ, List.setIfInBounds_toArray, List.set_cons_zero, List.set_cons_succ])
            (refine wpAnyH_done (by kernel_rfl) ?_ _; refine NoPanic.normal ?_)
            have BF := Lib.hid (B7.out.trans (hbm7.mono B7.out.size))
            clear om hbm oc hbc hbm2 hown6 hg6 hl6 hb6 hbm6 R6 hb7 hbm7 hHeld
            go_wp2_with fail
            go_ret
            exact ⟨rfl, BF.out⟩
end Go.Proofs.YthceonkdmcidcaaDoor
