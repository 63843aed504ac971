/- WALK: SealSecrets (printed by gen_seal.py). -/
import Derived.Test.YthceonkdmcidcaaDoorUH
import Derived.Deep.DeepCutAuto
set_option linter.unusedSimpArgs false
set_option linter.unusedVariables false
namespace Go.Proofs.YthceonkdmcidcaaDoor
open Go.RowKit

set_option maxRecDepth 100000 in
set_option maxHeartbeats 8000000 in
theorem walk_SealSecrets (s o : ByteArray) (x y : Int) (m : ByteArray) (w : World) (hs0 : s.size ≤ 9223372036854775807) (ho0 : o.size ≤ 9223372036854775807) (hx0 : 0 ≤ x) (hx1 : x ≤ 255) (hy0 : 0 ≤ y) (hy1 : y ≤ 255) (hm0 : m.size ≤ 9223372036854775807) (ht : Tab w) :
    Calls Tryd.prog 8 #[.string s, .string o, .int .u8 x, .int .u8 y, .string m] w fun e w' => e = .returned (.bool true) ∧ Below w.heap.size w w' := by
  have HD := Lib.hid (shead_any w ht)
  have HT := Lib.hid ht; clear ht
  obtain ⟨p, rfl⟩ : ∃ p : Nat, x = p := ⟨x.toNat, by omega⟩
  obtain ⟨p2, rfl⟩ : ∃ p : Nat, y = p := ⟨y.toNat, by omega⟩
  obtain ⟨h, HH⟩ : ∃ h : Nat, Hid (p % 3 = h) := ⟨_, Lib.hid rfl⟩
  have h4 : h < 3 := by rw [← HH.out]; exact Nat.mod_lt _ (by decide)
  have hh8 : h ≤ 8 := Nat.le_trans (Nat.le_of_lt h4) (by decide)
  obtain ⟨n, HN⟩ : ∃ n : Nat, Hid (2 ^ h = n) := ⟨_, Lib.hid rfl⟩
  have n0 : 0 < n := by rw [← HN.out]; exact pow_pos2 h
  have n8 : n ≤ 256 := by rw [← HN.out]; exact pow_le8 hh8
  obtain ⟨i, HI⟩ : ∃ i : Nat, Hid (p2 % n = i) := ⟨_, Lib.hid rfl⟩
  have hin : i < n := by rw [← HI.out]; exact Nat.mod_lt _ n0
  have hi2 : Hid (i < 2 ^ h) := Lib.hid (by rw [HN.out]; exact hin)
  have w9 : IntKind.i64.wrap (p : Int) = (p : Int) := IntWalk.i64_in _ (by omega)
  have w8 : IntKind.i64.wrap (p2 : Int) = (p2 : Int) := IntWalk.i64_in _ (by omega)
  have i0 : (0 : Int) ≤ (h : Int) := by omega
  have i1 : (h : Int) < 64 := by omega
  have n1 : ¬ (n : Int) = 0 := by omega
  have n2 : (1 : Int) ≤ (n : Int) := by omega
  have p0 : (0 : Int) ≤ (p : Int) := hx0
  have p20 : (0 : Int) ≤ (p2 : Int) := hy0
  have T1 : Hid ((p : Int).tmod 3 = (h : Int)) := Lib.hid (by rw [Int.tmod_eq_emod_of_nonneg p0, ← HH.out]; rfl)
  have T2 : Hid ((p2 : Int).tmod (n : Int) = (i : Int)) := Lib.hid (by rw [Int.tmod_eq_emod_of_nonneg p20, ← HI.out]; rfl)
  have HPW : Hid (wrap64 (2 ^ h) = (n : Int) ∧ IntKind.i64.wrap (2 ^ h) = (n : Int)) := Lib.hid (by
    have a := wrap_pow hh8; have b := wrap_pow2 hh8
    rw [HN.out] at a b
    exact ⟨a, b⟩)
  clear hx0 hx1 hy0 hy1
  go_enter Tryd.func8, Tryd.ntmps8
  go_wp2_with fail
  refine HD.out.mono ?_
  rintro e w1 ⟨rfl, hb1⟩
  have B1 := Lib.hid hb1; clear hb1 HD
  have t1 := T1.out
  go_upto_region 3 with fail
  clear t1 w9
  obtain ⟨PW, PW2⟩ := HPW.out
  have t2 := T2.out
  go_upto_region 4 with fail
  clear PW PW2 t2 w8
  have B1a : Hid (Below w.heap.size w (w1.alloc (.cells #[.string s, .string o, .string m] 9))) := Lib.hid (B1.out.alloc B1.out.size _)
  go_wp2_with fail
  refine (short3_any s o m w1).mono ?_
  rintro e w1' ⟨⟨b, rfl, hfew⟩, rfl⟩
  have FW := Lib.hid hfew; clear hfew
  cases b with
  | false =>
    go_wp2_with fail
    go_ret
    exact ⟨rfl, B1a.out⟩
  | true =>
    have hs : s.size ≤ 300 := FW.out rfl s (by simp)
    have hm : m.size ≤ 300 := FW.out rfl m (by simp)
    have ho : o.size ≤ 300 := FW.out rfl o (by simp)
    clear FW
    have hs' : s.data.toList.length ≤ 300 := by rw [← Lib.size_eq]; exact hs
    have ho' : o.data.toList.length ≤ 300 := by rw [← Lib.size_eq]; exact ho
    obtain ⟨w2, hw2⟩ : ∃ W, W = w1.alloc (.cells #[.string s, .string o, .string m] 9) := ⟨_, rfl⟩
    rw [← hw2] at B1a ⊢
    clear hw2 B1
    by_cases hd : s = o
    · have f1 := str_eq_t hd
      clear hd
      go_wp2_with fail
      go_ret
      exact ⟨rfl, B1a.out⟩
    · have f1 := str_eq_f hd
      have HDN := Lib.hid hd
      have PA := Lib.hid (fun u (hu : Below w.heap.size w u) => public_any o h u ho hh8 (HT.out.keep hu))
      have GA := Lib.hid (fun u (hu : Below w.heap.size w u) => sign_any s m h i u hs (by omega) hh8 hi2.out (HT.out.keep hu))
      have MA := Lib.hid (fun u => made_any s h 15 (h : Int) 15 u rfl rfl hs hh8 (by decide) (by decide))
      have MB := Lib.hid (fun u => made_any o h 15 (h : Int) 15 u rfl rfl ho hh8 (by decide) (by decide))
      have sl : Hid ((Sl.sigF s.data.toList i m.data.toList).length = 18) := Lib.hid (by simp [Sl.sigF])
      have pl : Hid ((Sl.pathS s.data.toList h i).length = h) := Lib.hid (Sl.path_len _ _ _)
      have sd : Hid (∀ t ∈ Sl.sigF s.data.toList i m.data.toList, t.length ≤ 300) := Lib.hid (isD_300 sigF_isD)
      have pd : Hid (∀ t ∈ Sl.pathS s.data.toList h i, t.length ≤ 300) := Lib.hid (isD_300 (pathS_isD hi2.out))
      have NI : Hid (verB (Sl.publicF o.data.toList h) m.data.toList (i : Int) (Sl.sigF s.data.toList i m.data.toList) (Sl.pathS s.data.toList h i) = true → ¬ Sl.Inj (Sl.Made s.data.toList h 15 ++ Sl.Made o.data.toList h 15)) := Lib.hid (fun hv hI => by
        obtain ⟨f1, f2, f3, f4, f5, f6, f7, f8⟩ := ver_facts hv
        rw [Int.toNat_natCast, Sl.verifies hi2.out] at f8
        have e := Sl.secrets hI (fun a ha => List.mem_append_left _ ha) (fun a ha => List.mem_append_right _ ha) f8
        exact HDN.out (ByteArray.ext (Array.ext' e)))
      have lm := made_len (s := s.data.toList) (h := h) (n := 15) hh8 (by decide)
      have lc := made_len (s := o.data.toList) (h := h) (n := 15) hh8 (by decide)
      have lc0 := made_len0 (s := o.data.toList) (h := h) (n := 15)
      have SA : Hid (¬ Sl.Inj (Sl.Made s.data.toList h 15 ++ Sl.Made o.data.toList h 15) → ∀ u A c, Rd u A (sv (Sl.Made s.data.toList h 15 ++ Sl.Made o.data.toList h 15)) → Calls Tryd.prog 22 #[.slice A ((Sl.Made s.data.toList h 15).length + (Sl.Made o.data.toList h 15).length) c] u fun e w' => e = .returned (.bool true) ∧ Below u.heap.size u w') := Lib.hid (fun hI => shown_app lm (by omega) (made_1e6 hs' hh8) (made_1e6 ho' hh8) hI)
      generalize Sl.Made s.data.toList h 15 = MD at *
      generalize Sl.Made o.data.toList h 15 = CK at *
      generalize Sl.sigF s.data.toList i m.data.toList = SG at *
      generalize Sl.pathS s.data.toList h i = PT at *
      generalize Sl.publicF o.data.toList h = PU at *
      clear hd
      go_wp2_with fail
      refine (PA.out _ B1a.out).mono ?_
      rintro e w3 ⟨rfl, hb3⟩
      have B3 := Lib.hid (B1a.out.trans (hb3.mono B1a.out.size)); clear hb3 B1a PA
      go_wp2_with fail
      refine (GA.out _ B3.out).mono ?_
      rintro e w4 ⟨A1, c1, A2, c2, rfl, a1, a2, a3, a4, r1, r2, hb4⟩
      rw [sl.out, pl.out]
      have B4 := Lib.hid (B3.out.trans (hb4.mono B3.out.size)); clear hb4 B3 GA a1 a2 a3 a4
      have B4a : Hid (Below w.heap.size w (w4.alloc (.cells #[.int .i64 i, .slice A1 18 c1, .slice A2 h c2] 24))) := Lib.hid (B4.out.alloc B4.out.size _)
      have R1 := Lib.hid (r1.alloc (.cells #[.int .i64 i, .slice A1 18 c1, .slice A2 h c2] 24)); have R2 := Lib.hid (r2.alloc (.cells #[.int .i64 i, .slice A1 18 c1, .slice A2 h c2] 24))
      have G := Lib.hid (heap_alloc_new w4 (.cells #[.int .i64 i, .slice A1 18 c1, .slice A2 h c2] 24))
      obtain ⟨q, hq1⟩ : ∃ q, w4.heap.size = q := ⟨_, rfl⟩
      rw [hq1] at G
      obtain ⟨w5, hw5⟩ : ∃ W, W = w4.alloc (.cells #[.int .i64 i, .slice A1 18 c1, .slice A2 h c2] 24) := ⟨_, rfl⟩
      rw [← hw5] at B4a R1 R2 G
      clear r1 r2 B4
      have VA : Hid (Calls Tryd.prog 18 #[.string (mkB PU), .string m, .agg #[.int .i64 i, .slice A1 18 c1, .slice A2 h c2]] w5 fun e w' => e = .returned (.bool (verB PU m.data.toList (i : Int) SG PT)) ∧ Below w5.heap.size w5 w') := Lib.hid (by
        have := verify_any (mkB PU) m (i : Int) A1 A2 c1 c2 SG PT w5 (by omega) ⟨R1.out, by rw [sl.out]; decide, sd.out⟩ ⟨R2.out, by rw [pl.out]; omega, pd.out⟩ (HT.out.keep B4a.out)
        rw [mkB_list, sl.out, pl.out] at this
        exact this)
      obtain ⟨v, hv⟩ : ∃ v, verB PU m.data.toList (i : Int) SG PT = v := ⟨_, rfl⟩
      rw [hv] at VA NI
      clear hv
      obtain ⟨x0, x1, x2⟩ := cells3 G.out
      go_upto_region 8 with fail
      rw [← hw5]
      clear hw5 hq1
      go_wp2_with fail
      refine VA.out.mono ?_
      rintro e w6 ⟨rfl, hb6⟩
      have B6 := Lib.hid (B4a.out.trans (hb6.mono B4a.out.size))
      have G6 := Lib.hid ((hb6.block q (lt_of_block G.out)).trans G.out)
      have Q1 := Lib.hid (R1.out.below hb6); have Q2 := Lib.hid (R2.out.below hb6)
      clear hb6 B4a G R1 R2 VA x0 x1 x2
      cases v with
      | false =>
        go_wp2_with fail
        go_ret
        exact ⟨rfl, B6.out⟩
      | true =>
        have SB := Lib.hid (SA.out (NI.out rfl))
        clear SA NI
        have SA := SB
        clear SB
        clear G6 Q1 Q2
        go_wp2_with fail
        refine (MA.out _).mono ?_
        rintro e wm ⟨Am, cm, rfl, om, hbm⟩
        go_wp2_with fail
        refine (MB.out _).mono ?_
        rintro e wc ⟨Ac, cc, rfl, oc, hbc⟩
        have O2 := Lib.hid (own_below om hbc (Nat.le_refl _))
        have RC := Lib.hid (Rd.of_own oc)
        have BM := Lib.hid (hbm.trans (hbc.mono hbm.size))
        have hz := Nat.le_trans hbm.size hbc.size
        clear om oc hbm hbc
        go_wp2_with (at_builtin; refine wpList_appLg ?g1 (.tmp 69) (.tmp 72) 22 rfl Tryd.underlying22 info_str rfl w6.heap.size (.slice Am MD.length cm) MD.length _ Ac CK.length cc (sv CK) (sv_cells _) rfl rfl O2.out RC.out (sv_len _) lc0 hz ?g2 ?g3 ?_)
        case g2 => omega
        case g3 => omega
        intro g6 c6 w7 hown6 hg6 hl6 hb6
        have R6 : Hid (Rd w7 (some ⟨g6, 0, none⟩) (sv (MD ++ CK))) := Lib.hid (by rw [sv_app]; exact Rd.of_own hown6)
        have B7 := Lib.hid (B6.out.trans ((BM.out.trans hb6).mono B6.out.size))
        clear hown6 hg6 hl6 hb6 O2 RC BM hz
        go_wp2_with fail
        refine (SA.out _ _ _ R6.out).mono ?_
        rintro e w8 ⟨rfl, hb8⟩
        have B8 := Lib.hid (B7.out.trans (hb8.mono B7.out.size))
        clear hb8
        go_wp2_with fail
        go_ret
        exact ⟨rfl, B8.out⟩
end Go.Proofs.YthceonkdmcidcaaDoor
