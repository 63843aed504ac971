/- WALK: SealSound (printed by gen_seal.py). -/
import Derived.Test.YthceonkdmcidcaaDoorUH
import Derived.Deep.DeepCutAuto
set_option linter.unusedSimpArgs false
set_option linter.unusedVariables false
namespace Go.Proofs.YthceonkdmcidcaaDoor
open Go.RowKit

theorem ver_sound {s m : List UInt8} {h : Nat} {idx : Int} {S P : List (List UInt8)} (hv : verB (Sl.publicF s h) m idx S P = true) (hI : Sl.Inj (Sl.Made s h 15 ++ Sl.Checked m idx.toNat S P)) : P.length = h ∧ idx.toNat < 2 ^ h ∧ S = Sl.sigF s idx.toNat m ∧ P = Sl.pathS s h idx.toNat := by
  obtain ⟨f1, f2, f3, f4, f5, f6, f7, f8⟩ := ver_facts hv
  exact Sl.sound hI (Nat.le_refl _) (fun a ha => List.mem_append_left _ ha) (fun a ha => List.mem_append_right _ ha) f1 (by omega) f8
set_option maxRecDepth 100000 in
set_option maxHeartbeats 8000000 in
theorem walk_SealSound (s : ByteArray) (x : Int) (m : ByteArray) (idx : Int) (A1 A2 : Option Addr) (c1 c2 : Nat) (S P : List (List UInt8)) (w : World) (hs0 : s.size ≤ 9223372036854775807) (hx0 : 0 ≤ x) (hx1 : x ≤ 255) (hm0 : m.size ≤ 9223372036854775807)
    (hS : S.length ≤ c1) (hc1 : c1 ≤ 8796093022208) (hP : P.length ≤ c2) (hc2 : c2 ≤ 8796093022208) (r1 : Rd w A1 (sv S)) (r2 : Rd w A2 (sv P)) (ht : Tab w) :
    Calls Tryd.prog 5 #[.string s, .int .u8 x, .string m, .agg #[.int .i64 idx, .slice A1 S.length c1, .slice A2 P.length c2]] w fun e w' => e = .returned (.bool true) ∧ Below w.heap.size w w' := by
  obtain ⟨B, hB⟩ : ∃ B, w.heap.size = B := ⟨_, rfl⟩
  obtain ⟨n1, hn1⟩ : ∃ n, S.length = n := ⟨_, rfl⟩
  obtain ⟨n2, hn2⟩ : ∃ n, P.length = n := ⟨_, rfl⟩
  have N1 := Lib.hid hn1; have N2 := Lib.hid hn2
  rw [hn1, hn2]
  rw [hn1] at hS; rw [hn2] at hP
  obtain ⟨W0, hW0⟩ : ∃ W0, W0 = w.alloc (.cells #[.int .i64 idx, .slice A1 n1 c1, .slice A2 n2 c2] 24) := ⟨_, rfl⟩
  have Q := Lib.hid (sealIn_mk (idx := idx) (A1 := A1) (A2 := A2) (n1 := n1) (c1 := c1) (n2 := n2) (c2 := c2) hB hW0 ht r1 r2)
  have HD := Lib.hid (shead_any W0 (Q.out.tab W0 (Below.refl _ _)))
  have hS2 : S.length ≤ 8796093022208 := by omega
  have hP2 : P.length ≤ 8796093022208 := by omega
  have FA : Hid (∀ u, Below (B + 1) W0 u → Calls Tryd.prog 12 #[.agg #[.int .i64 idx, .slice A1 n1 c1, .slice A2 n2 c2]] u fun e w' => SomeBool (Few2Said S P) e ∧ Below u.heap.size u w') := Lib.hid (fun u hu => by
    rw [← hn1, ← hn2]; exact few2_any idx A1 A2 c1 c2 S P u hS2 hP2 (Q.out.r1 u hu) (Q.out.r2 u hu))
  obtain ⟨p, rfl⟩ : ∃ p : Nat, x = p := ⟨x.toNat, by omega⟩
  obtain ⟨h, HH⟩ : ∃ h : Nat, Hid (p % 3 = h) := ⟨_, Lib.hid rfl⟩
  have h3 : h < 3 := by rw [← HH.out]; exact Nat.mod_lt _ (by decide)
  have hh8 : h ≤ 8 := Nat.le_trans (Nat.le_of_lt h3) (by decide)
  have w9 : IntKind.i64.wrap (p : Int) = (p : Int) := IntWalk.i64_in _ (by omega)
  have p0 : (0 : Int) ≤ (p : Int) := hx0
  have T1 : Hid ((p : Int).tmod 3 = (h : Int)) := Lib.hid (by rw [Int.tmod_eq_emod_of_nonneg p0, ← HH.out]; rfl)
  clear hn1 hn2 r1 r2 hS2 hP2 hx0 hx1
  go_enter Tryd.func5, Tryd.ntmps5
  go_wp2_with fail
  rw [← hW0]
  clear hW0 hB
  refine HD.out.mono ?_
  rintro e w1 ⟨rfl, hb1⟩
  have B1 := Lib.hid (Q.out.next _ _ (Below.refl _ _) hb1); clear hb1 HD
  have t1 := T1.out
  go_upto_region 3 with fail
  clear t1 w9
  have B1a : Hid (Below (B + 1) W0 (w1.alloc (.cells #[.string s, .string m] 9))) := Lib.hid (B1.out.alloc (Q.out.sz _ B1.out) _)
  go_wp2_with fail
  refine (short2_any s m w1).mono ?_
  rintro e w1' ⟨⟨b, rfl, hfew⟩, rfl⟩
  have FW := Lib.hid hfew; clear hfew
  cases b with
  | false =>
    go_wp2_with fail
    go_ret
    exact ⟨rfl, Q.out.bel _ B1a.out⟩
  | true =>
    have hs : s.size ≤ 300 := FW.out rfl s (by simp)
    have hm : m.size ≤ 300 := FW.out rfl m (by simp)
    obtain ⟨w2, hw2⟩ : ∃ W, W = w1.alloc (.cells #[.string s, .string m] 9) := ⟨_, rfl⟩
    rw [← hw2] at B1a ⊢
    clear FW hw2 B1
    obtain ⟨x0, x1, x2⟩ := cells3 (Q.out.blk _ B1a.out)
    go_wp2_with fail
    refine (FA.out _ B1a.out).mono ?_
    rintro e w3 ⟨⟨b, rfl, hf⟩, hb3⟩
    have B3 := Lib.hid (Q.out.next _ _ B1a.out hb3); clear hb3 x0 x1 x2 B1a
    have FW := Lib.hid hf; clear hf
    cases b with
    | false =>
      go_wp2_with fail
      go_ret
      exact ⟨rfl, Q.out.bel _ B3.out⟩
    | true =>
      obtain ⟨⟨l1, s1⟩, ⟨l2, s2⟩⟩ := FW.out rfl
      have S1 := Lib.hid (len_100 s1); have S2 := Lib.hid (len_100 s2)
      have l1' : S.length ≤ 1000 := by omega
      have l2' : P.length ≤ 1000 := by omega
      clear FW s1 s2 FA
      have VA : Hid (∀ u, Below (B + 1) W0 u → Calls Tryd.prog 18 #[.string (mkB (Sl.publicF s.data.toList h)), .string m, .agg #[.int .i64 idx, .slice A1 n1 c1, .slice A2 n2 c2]] u fun e w' => e = .returned (.bool (verB (Sl.publicF s.data.toList h) m.data.toList idx S P)) ∧ Below u.heap.size u w') := Lib.hid (fun u hu => by
        have := verify_any (mkB (Sl.publicF s.data.toList h)) m idx A1 A2 c1 c2 S P u (by omega) ⟨Q.out.r1 u hu, l1', S1.out⟩ ⟨Q.out.r2 u hu, l2', S2.out⟩ (Q.out.tab u hu)
        rw [mkB_list, N1.out, N2.out] at this
        exact this)
      have PA := Lib.hid (fun u (hu : Below (B + 1) W0 u) => public_any s h u hs hh8 (Q.out.tab u hu))
      have NI : Hid (verB (Sl.publicF s.data.toList h) m.data.toList idx S P = true → (¬ (idx.toNat < 2 ^ h) ∨ same2F idx idx (Sl.sigF s.data.toList idx.toNat m.data.toList) S (Sl.pathS s.data.toList h idx.toNat) P = false) → ¬ Sl.Inj (Sl.Made s.data.toList h 15 ++ Sl.Checked m.data.toList idx.toNat S P)) := Lib.hid (fun hv hn hI => by
        obtain ⟨g1, g2, g3, g4⟩ := ver_sound hv hI
        rcases hn with hn | hn
        · exact hn g2
        · rw [← g3, ← g4, same2F_refl] at hn; cases hn)
      have VF : Hid (verB (Sl.publicF s.data.toList h) m.data.toList idx S P = true → S.length = 18 ∧ P.length ≤ 8 ∧ 0 ≤ idx ∧ idx < ((2 ^ P.length : Nat) : Int)) := Lib.hid (fun hv => by
        obtain ⟨f1, f2, f3, f4, f5, f6, f7, f8⟩ := ver_facts hv
        exact ⟨f1, f2, f5, f6⟩)
      generalize Sl.publicF s.data.toList h = PU at *
      obtain ⟨v, hv⟩ : ∃ v, verB PU m.data.toList idx S P = v := ⟨_, rfl⟩
      rw [hv] at VA NI VF
      clear hv
      go_wp2_with fail
      refine (PA.out _ B3.out).mono ?_
      rintro e w4 ⟨rfl, hb4⟩
      have B4 := Lib.hid (Q.out.next _ _ B3.out hb4); clear hb4 B3 PA
      obtain ⟨x0, x1, x2⟩ := cells3 (Q.out.blk _ B4.out)
      go_wp2_with fail
      refine (VA.out _ B4.out).mono ?_
      rintro e w5 ⟨rfl, hb5⟩
      have B5 := Lib.hid (Q.out.next _ _ B4.out hb5); clear hb5 B4 x0 x1 x2
      cases v with
      | false =>
        go_wp2_with fail
        go_ret
        exact ⟨rfl, Q.out.bel _ B5.out⟩
      | true =>
        obtain ⟨f1, f2, f5, f6⟩ := VF.out rfl
        obtain ⟨j, rfl⟩ : ∃ j : Nat, idx = j := ⟨idx.toNat, by omega⟩
        rw [Int.toNat_natCast] at NI
        have j256 : j < 256 := by have := pow_le8 f2; omega
        have hl18 : n1 = 18 := by rw [← N1.out]; exact f1
        subst hl18
        have hs' : s.data.toList.length ≤ 300 := by rw [← Lib.size_eq]; exact hs
        have MA := Lib.hid (fun u => made_any s h 15 (h : Int) 15 u rfl rfl hs hh8 (by decide) (by decide))
        have CA : Hid (∀ u, Below (B + 1) W0 u → Calls Tryd.prog 24 #[.string m, .agg #[.int .i64 (j : Int), .slice A1 18 c1, .slice A2 n2 c2]] u (OwnP u (Sl.Checked m.data.toList j S P))) := Lib.hid (fun u hu => by
          have := checked_any m j A1 A2 c1 c2 S P u (by omega) f1 (by omega) S1.out S2.out (by omega) (Q.out.r1 u hu) (Q.out.r2 u hu) (Q.out.tab u hu)
          rw [N2.out] at this
          exact this)
        have lm := made_len (s := s.data.toList) (h := h) (n := 15) hh8 (by decide)
        obtain ⟨lc0, lc⟩ := checked_len (m := m.data.toList) (i := j) (S := S) (p := P) l2'
        have SA : Hid (¬ Sl.Inj (Sl.Made s.data.toList h 15 ++ Sl.Checked m.data.toList j S P) → ∀ u A c, Rd u A (sv (Sl.Made s.data.toList h 15 ++ Sl.Checked m.data.toList j S P)) → Calls Tryd.prog 22 #[.slice A ((Sl.Made s.data.toList h 15).length + (Sl.Checked m.data.toList j S P).length) c] u fun e w' => e = .returned (.bool true) ∧ Below u.heap.size u w') := Lib.hid (fun hI => shown_app lm (by omega) (made_1e6 hs' hh8) (checked_1e6 S1.out S2.out) hI)
        have GA : Hid (j < 2 ^ h → ∀ u, Below (B + 1) W0 u → Calls Tryd.prog 15 #[.string s, .int .i64 h, .int .i64 j, .string m] u (SignPost u j (Sl.sigF s.data.toList j m.data.toList) (Sl.pathS s.data.toList h j))) := Lib.hid (fun hj u hu => sign_any s m h j u hs (by omega) hh8 hj (Q.out.tab u hu))
        have GB : Hid (¬ j < 2 ^ h → ∀ u, Calls Tryd.prog 15 #[.string s, .int .i64 h, .int .i64 j, .string m] u fun e w' => e = .returned (.tuple #[.agg #[.int .i64 0, .slice none 0 0, .slice none 0 0], .int .i64 1]) ∧ Below u.heap.size u w') := Lib.hid (fun hj u => sign_bad s m h j u (.inr (.inr (.inr ⟨h, rfl, hh8, by omega⟩))))
        have sl : Hid ((Sl.sigF s.data.toList j m.data.toList).length = 18) := Lib.hid (by simp [Sl.sigF])
        have pl : Hid ((Sl.pathS s.data.toList h j).length = h) := Lib.hid (Sl.path_len _ _ _)
        generalize Sl.Made s.data.toList h 15 = MD at *
        generalize Sl.Checked m.data.toList j S P = CK at *
        generalize Sl.sigF s.data.toList j m.data.toList = SG at *
        generalize Sl.pathS s.data.toList h j = PT at *
        have hBq : ∀ u, Below (B + 1) W0 u → B < u.heap.size := fun u hu => Q.out.sz u hu
        have HBQ := Lib.hid hBq
        have NJ := NI.out rfl
        have HNJ := Lib.hid NJ
        clear f1 f2 f5 f6 VA VF NI NJ hBq l1 l2 l1'
        by_cases hj : j < 2 ^ h
        · have G := Lib.hid (GA.out hj)
          clear hj GB GA
          obtain ⟨x0, x1, x2⟩ := cells3 (Q.out.blk _ B5.out)
          go_wp2_with fail
          refine (G.out _ B5.out).mono ?_
          rintro e w6 ⟨A3, c3, A4, c4, rfl, a1, a2, a3, a4, r3, r4, hb6⟩
          rw [sl.out, pl.out]
          have B6 := Lib.hid (Q.out.next _ _ B5.out hb6)
          clear hb6 B5 x0 x1 x2 a1 a2 a3 a4
          have B6a : Hid (Below (B + 1) W0 (w6.alloc (.cells #[.int .i64 j, .slice A3 18 c3, .slice A4 h c4] 24))) := Lib.hid (B6.out.alloc (Q.out.sz _ B6.out) _)
          have R3 := Lib.hid (r3.alloc (.cells #[.int .i64 j, .slice A3 18 c3, .slice A4 h c4] 24)); have R4 := Lib.hid (r4.alloc (.cells #[.int .i64 j, .slice A3 18 c3, .slice A4 h c4] 24))
          have G6 := Lib.hid (heap_alloc_new w6 (.cells #[.int .i64 j, .slice A3 18 c3, .slice A4 h c4] 24))
          obtain ⟨q1, hq1⟩ : ∃ q, w6.heap.size = q := ⟨_, rfl⟩
          rw [hq1] at G6
          obtain ⟨w7, hw7⟩ : ∃ W, W = w6.alloc (.cells #[.int .i64 j, .slice A3 18 c3, .slice A4 h c4] 24) := ⟨_, rfl⟩
          rw [← hw7] at B6a R3 R4 G6
          clear r3 r4
          have SM : Hid (Calls Tryd.prog 17 #[.agg #[.int .i64 j, .slice A3 18 c3, .slice A4 h c4], .agg #[.int .i64 j, .slice A1 18 c1, .slice A2 n2 c2]] w7 fun e w' => e = .returned (.bool (same2F j j SG S PT P)) ∧ Below w7.heap.size w7 w') := Lib.hid (by
            have := same2_any (j : Int) (j : Int) A3 A4 A1 A2 c3 c4 c1 c2 SG S PT P w7 (by rw [sl.out]; decide) (by rw [N1.out]; decide) (by rw [pl.out]; omega) l2' R3.out R4.out (Q.out.r1 _ B6a.out) (Q.out.r2 _ B6a.out)
            rw [sl.out, pl.out, N1.out, N2.out] at this
            exact this)
          obtain ⟨y0, y1, y2⟩ := cells3 G6.out
          obtain ⟨x0, x1, x2⟩ := cells3 (Q.out.blk _ B6a.out)
          obtain ⟨v, hv⟩ : ∃ v, same2F j j SG S PT P = v := ⟨_, rfl⟩
          rw [hv] at SM HNJ
          clear hv
          go_upto_region 11 with fail
          rw [← hw7]
          clear hw7 hq1
          go_wp2_with fail
          refine SM.out.mono ?_
          rintro e w8 ⟨rfl, hb8⟩
          have B8 := Lib.hid (Q.out.next _ _ B6a.out hb8)
          clear hb8 B6a B6 R3 R4 G6 x0 x1 x2 y0 y1 y2 SM G
          cases v with
          | true =>
            go_wp2_with fail
            go_ret
            exact ⟨rfl, Q.out.bel _ B8.out⟩
          | false =>
            have SB := Lib.hid (SA.out (HNJ.out (.inr rfl)))
            clear SA HNJ
            have SA := SB
            clear SB
            have CB : Hid (∀ u, Below w8.heap.size w8 u → Calls Tryd.prog 24 #[.string m, .agg #[.int .i64 (j : Int), .slice A1 18 c1, .slice A2 n2 c2]] u (OwnP u CK)) := Lib.hid (fun u hu => CA.out u (Q.out.next _ _ B8.out hu))
            clear CA
            have CA := CB
            clear CB
            obtain ⟨x0, x1, x2⟩ := cells3 (Q.out.blk _ B8.out)
            have hq : B < w8.heap.size := HBQ.out _ B8.out
            have C0 : ∀ w', Below w8.heap.size w8 w' → w'.cell? ⟨B, 0, none⟩ = _ := fun w' h => (h.cell (p := ⟨B, 0, none⟩) hq).trans x0
            have C1 : ∀ w', Below w8.heap.size w8 w' → w'.cell? ⟨B, 1, none⟩ = _ := fun w' h => (h.cell (p := ⟨B, 1, none⟩) hq).trans x1
            have C2 : ∀ w', Below w8.heap.size w8 w' → w'.cell? ⟨B, 2, none⟩ = _ := fun w' h => (h.cell (p := ⟨B, 2, none⟩) hq).trans x2
            clear x0 x1 x2
            go_wp2_with fail
            (refine wp_region_noPanic ?_; refine wp_region_held_drew (S := (fun w' => Below w8.heap.size w8 w')) (by kernel_rfl) ?_ (fun hHeld => ?_); exact ((Below.refl _ _).drew))
            (refine wpAnyH_take (i := 0) (oi := _) (v := ?_) rfl (by kernel_rfl) (by kernel_rfl) (by kernel_rfl) (fun _ _ _ h => h) (Or.inl ⟨?_, ?_⟩) (by assumption) ?_; rotate_left; (focus (first | rfl | (simp [Region.wanted, yielded]; done))); (focus (intro w hSw; (try dsimp only at hSw); go_simp; all_goals (with_reducible rfl))); try simp only [Act.put, List.getElem_toArray, List.getElem_cons_zero, List.getElem_cons_succ, List.setIfInBounds_toArray, List.set_cons_zero, List.set_cons_succ])
            (refine wpAnyH_take (i := 1) (oi := _) (v := ?_) rfl (by kernel_rfl) (by kernel_rfl) (by kernel_rfl) (fun _ _ _ h => h) (Or.inl ⟨?_, ?_⟩) (by assumption) ?_; rotate_left; (focus (first | rfl | (simp [Region.wanted, yielded]; done))); (focus (intro w hSw; (try dsimp only at hSw); go_simp; all_goals (with_reducible rfl))); try simp only [Act.put, List.getElem_toArray, List.getElem_cons_zero, List.getElem_cons_succ, List.setIfInBounds_toArray, List.set_cons_zero, List.set_cons_succ])
            (refine wpAnyH_take (i := 2) (oi := _) (v := ?_) rfl (by kernel_rfl) (by kernel_rfl) (by kernel_rfl) (fun _ _ _ h => h) (Or.inl ⟨?_, ?_⟩) (by assumption) ?_; rotate_left; (focus (first | rfl | (simp [Region.wanted, yielded]; done))); (focus (intro w hSw; (try dsimp only at hSw); go_simp; all_goals (with_reducible rfl))); try simp only [Act.put, List.getElem_toArray, List.getElem_cons_zero, List.getElem_cons_succ, List.setIfInBounds_toArray, List.set_cons_zero, List.set_cons_succ])
            (refine wpAnyH_take (i := 3) (oi := _) (v := ?_) rfl (by kernel_rfl) (by kernel_rfl) (by kernel_rfl) (fun _ _ _ h => h) (Or.inl ⟨?_, ?_⟩) (by assumption) ?_; rotate_left; (focus (first | rfl | (simp [Region.wanted, yielded]; done))); (focus (intro w hSw; (try dsimp only at hSw); go_simp; all_goals (with_reducible rfl))); try simp only [Act.put, List.getElem_toArray, List.getElem_cons_zero, List.getElem_cons_succ, List.setIfInBounds_toArray, List.set_cons_zero, List.set_cons_succ])
            (refine wpAnyH_take (i := 5) (oi := _) (v := ?_) rfl (by kernel_rfl) (by kernel_rfl) (by kernel_rfl) (fun _ _ _ h => h) (Or.inl ⟨?_, ?_⟩) (by assumption) ?_; rotate_left; (focus (first | rfl | (simp [Region.wanted, yielded]; done))); (focus (intro w hSw; (try dsimp only at hSw); go_simp; all_goals (with_reducible rfl))); try simp only [Act.put, List.getElem_toArray, List.getElem_cons_zero, List.getElem_cons_succ, List.setIfInBounds_toArray, List.set_cons_zero, List.set_cons_succ])
            (refine wpAnyH_take (i := 6) (oi := _) (v := ?_) rfl (by kernel_rfl) (by kernel_rfl) (by kernel_rfl) (fun _ _ _ h => h) (Or.inl ⟨?_, ?_⟩) (by assumption) ?_; rotate_left; (focus (first | rfl | (simp [Region.wanted, yielded]; done))); (focus (intro w hSw; (try dsimp only at hSw); go_simp; all_goals (with_reducible rfl))); try simp only [Act.put, List.getElem_toArray, List.getElem_cons_zero, List.getElem_cons_succ, List.setIfInBounds_toArray, List.set_cons_zero, List.set_cons_succ])
            (refine wpAnyH_ready (rs := [4]) (by kernel_rfl) (by simp) ?_; refine AllReadyH.cons (o := _) rfl (fun K hK => ?_) AllReadyH.nil; go_simp)
            refine (MA.out _).mono ?_
            rintro e wm ⟨Am, cm, rfl, om', hbm'⟩
            have hbm := drew_below hbm'
            have om : wm.ownsRow w8.heap.size 9 1 (.slice Am MD.length cm) MD.length (sv MD) := om'
            (refine hK.out _ _ hbm (fun hHeld2 => ?_); clear hK K hHeld; have hHeld := hHeld2; clear hHeld2; try simp only [Act.put, List.getElem_toArray, List.getElem_cons_zero, List.getElem_cons_succ, List.setIfInBounds_toArray, List.set_cons_zero, List.set_cons_succ])
            clear om' hbm' C0 C1 C2
            (refine wpAnyH_ready (rs := [7]) (by kernel_rfl) (by simp) ?_; refine AllReadyH.cons (o := _) rfl (fun K hK => ?_) AllReadyH.nil; go_simp)
            refine (CA.out _ hbm).mono ?_
            rintro e wc ⟨Ac, cc, rfl, oc, hbc⟩
            have hbm2 := hbm.trans (hbc.mono hbm.size)
            (refine hK.out _ _ hbm2 (fun hHeld2 => ?_); clear hK K hHeld; have hHeld := hHeld2; clear hHeld2; try simp only [Act.put, List.getElem_toArray, List.getElem_cons_zero, List.getElem_cons_succ, List.setIfInBounds_toArray, List.set_cons_zero, List.set_cons_succ])
            (refine wpAnyH_ready (rs := [8]) (by kernel_rfl) (by simp) ?_; refine AllReadyH.cons (o := _) rfl (fun K hK => ?_) AllReadyH.nil)
            refine step_appL (by simp [Region.wanted, yielded]) (.tmp 65) (.tmp 68) 22 rfl Tryd.underlying22 info_str rfl w8.heap.size (.slice Am MD.length cm) MD.length _ Ac CK.length cc (sv CK) (sv_cells _) rfl rfl (own_below om hbc (Nat.le_refl _)) (Rd.of_own oc) (sv_len _) lc0 (Nat.le_trans hbm.size hbc.size) (by omega) (by omega) ?_
            intro g6 c6 w6 hown6 hg6 hl6 hb6
            have hbm6 := hbm2.trans hb6
            (refine hK.out _ _ hbm6 (fun hHeld2 => ?_); clear hK K hHeld; have hHeld := hHeld2; clear hHeld2; try simp only [Act.put, List.getElem_toArray, List.getElem_cons_zero, List.getElem_cons_succ, List.setIfInBounds_toArray, List.set_cons_zero, List.set_cons_succ])
            have R6 : Rd w6 (some ⟨g6, 0, none⟩) (sv (MD ++ CK)) := by rw [sv_app]; exact Rd.of_own hown6
            (refine wpAnyH_ready (rs := [9]) (by kernel_rfl) (by simp) ?_; refine AllReadyH.cons (o := _) rfl (fun K hK => ?_) AllReadyH.nil; go_simp)
            refine (SA.out _ _ _ R6).mono ?_
            rintro e w7 ⟨rfl, hb7⟩
            have hbm7 := hbm6.trans (hb7.mono hbm6.size)
            (refine hK.out _ _ hbm7 (fun hHeld2 => ?_); clear hK K hHeld; have hHeld := hHeld2; clear hHeld2; try simp only [Act.put, List.getElem_toArray, List.getElem_cons_zero, List.getElem_cons_succ, List.setIfInBounds_toArray, List.set_cons_zero, List.set_cons_succ])
            (refine wpAnyH_take (i := 10) (oi := _) (v := ?_) rfl (by kernel_rfl) (by kernel_rfl) (by kernel_rfl) (fun _ _ _ h => h) (Or.inl ⟨?_, ?_⟩) (by assumption) ?_; rotate_left; (focus (first | rfl | (simp [Region.wanted, yielded]; done))); (focus (intro w hSw; (try dsimp only at hSw); go_simp; all_goals (with_reducible rfl))); try simp only [Act.put, List.getElem_toArray, List.getElem_cons_zero, List.getElem_cons_succ, List.setIfInBounds_toArray, List.set_cons_zero, List.set_cons_succ])
            (refine wpAnyH_take (i := 11) (oi := _) (v := ?_) rfl (by kernel_rfl) (by kernel_rfl) (by kernel_rfl) (fun _ _ _ h => h) (Or.inl ⟨?_, ?_⟩) (by assumption) ?_; rotate_left; (focus (first | rfl | (simp [Region.wanted, yielded]; done))); (focus (intro w hSw; (try dsimp only at hSw); go_simp; all_goals (with_reducible rfl))); try simp only [Act.put, List.getElem_toArray, List.getElem_cons_zero, List.getElem_cons_succ, List.setIfInBounds_toArray, List.set_cons_zero, List.set_cons_succ])
            (refine wpAnyH_done (by kernel_rfl) ?_ _; refine NoPanic.normal ?_)
            have BF := Lib.hid (Q.out.bel _ (Q.out.next _ _ B8.out hbm7))
            clear om hbm oc hbc hbm2 hown6 hg6 hl6 hb6 hbm6 R6 hb7 hbm7 hHeld
            go_wp2_with fail
            go_ret
            exact ⟨rfl, BF.out⟩
        · have G := Lib.hid (GB.out hj)
          have SB := Lib.hid (SA.out (HNJ.out (.inl hj)))
          clear SA HNJ hj GB GA
          have SA := SB
          clear SB
          obtain ⟨x0, x1, x2⟩ := cells3 (Q.out.blk _ B5.out)
          go_wp2_with fail
          refine (G.out _).mono ?_
          rintro e w6 ⟨rfl, hb6⟩
          have B6 := Lib.hid (Q.out.next _ _ B5.out hb6)
          clear hb6 B5 x0 x1 x2 G
          have B6a : Hid (Below (B + 1) W0 (w6.alloc (.cells #[.int .i64 0, .slice none 0 0, .slice none 0 0] 24))) := Lib.hid (B6.out.alloc (Q.out.sz _ B6.out) _)
          obtain ⟨w8, hw8⟩ : ∃ W, W = w6.alloc (.cells #[.int .i64 0, .slice none 0 0, .slice none 0 0] 24) := ⟨_, rfl⟩
          rw [← hw8] at B6a
          have CB : Hid (∀ u, Below w8.heap.size w8 u → Calls Tryd.prog 24 #[.string m, .agg #[.int .i64 (j : Int), .slice A1 18 c1, .slice A2 n2 c2]] u (OwnP u CK)) := Lib.hid (fun u hu => CA.out u (Q.out.next _ _ B6a.out hu))
          clear CA
          have CA := CB
          clear CB
          obtain ⟨x0, x1, x2⟩ := cells3 (Q.out.blk _ B6a.out)
          have hq : B < w8.heap.size := HBQ.out _ B6a.out
          go_upto_region 11 with fail
          rw [← hw8]
          clear hw8
          have C0 : ∀ w', Below w8.heap.size w8 w' → w'.cell? ⟨B, 0, none⟩ = _ := fun w' h => (h.cell (p := ⟨B, 0, none⟩) hq).trans x0
          have C1 : ∀ w', Below w8.heap.size w8 w' → w'.cell? ⟨B, 1, none⟩ = _ := fun w' h => (h.cell (p := ⟨B, 1, none⟩) hq).trans x1
          have C2 : ∀ w', Below w8.heap.size w8 w' → w'.cell? ⟨B, 2, none⟩ = _ := fun w' h => (h.cell (p := ⟨B, 2, none⟩) hq).trans x2
          clear x0 x1 x2
          go_wp2_with fail
          (refine wp_region_noPanic ?_; refine wp_region_held_drew (S := (fun w' => Below w8.heap.size w8 w')) (by kernel_rfl) ?_ (fun hHeld => ?_); exact ((Below.refl _ _).drew))
          (refine wpAnyH_take (i := 0) (oi := _) (v := ?_) rfl (by kernel_rfl) (by kernel_rfl) (by kernel_rfl) (fun _ _ _ h => h) (Or.inl ⟨?_, ?_⟩) (by assumption) ?_; rotate_left; (focus (first | rfl | (simp [Region.wanted, yielded]; done))); (focus (intro w hSw; (try dsimp only at hSw); go_simp; all_goals (with_reducible rfl))); try simp only [Act.put, List.getElem_toArray, List.getElem_cons_zero, List.getElem_cons_succ, List.setIfInBounds_toArray, List.set_cons_zero, List.set_cons_succ])
          (refine wpAnyH_take (i := 1) (oi := _) (v := ?_) rfl (by kernel_rfl) (by kernel_rfl) (by kernel_rfl) (fun _ _ _ h => h) (Or.inl ⟨?_, ?_⟩) (by assumption) ?_; rotate_left; (focus (first | rfl | (simp [Region.wanted, yielded]; done))); (focus (intro w hSw; (try dsimp only at hSw); go_simp; all_goals (with_reducible rfl))); try simp only [Act.put, List.getElem_toArray, List.getElem_cons_zero, List.getElem_cons_succ, List.setIfInBounds_toArray, List.set_cons_zero, List.set_cons_succ])
          (refine wpAnyH_take (i := 2) (oi := _) (v := ?_) rfl (by kernel_rfl) (by kernel_rfl) (by kernel_rfl) (fun _ _ _ h => h) (Or.inl ⟨?_, ?_⟩) (by assumption) ?_; rotate_left; (focus (first | rfl | (simp [Region.wanted, yielded]; done))); (focus (intro w hSw; (try dsimp only at hSw); go_simp; all_goals (with_reducible rfl))); try simp only [Act.put, List.getElem_toArray, List.getElem_cons_zero, List.getElem_cons_succ, List.setIfInBounds_toArray, List.set_cons_zero, List.set_cons_succ])
          (refine wpAnyH_take (i := 3) (oi := _) (v := ?_) rfl (by kernel_rfl) (by kernel_rfl) (by kernel_rfl) (fun _ _ _ h => h) (Or.inl ⟨?_, ?_⟩) (by assumption) ?_; rotate_left; (focus (first | rfl | (simp [Region.wanted, yielded]; done))); (focus (intro w hSw; (try dsimp only at hSw); go_simp; all_goals (with_reducible rfl))); try simp only [Act.put, List.getElem_toArray, List.getElem_cons_zero, List.getElem_cons_succ, List.setIfInBounds_toArray, List.set_cons_zero, List.set_cons_succ])
          (refine wpAnyH_take (i := 5) (oi := _) (v := ?_) rfl (by kernel_rfl) (by kernel_rfl) (by kernel_rfl) (fun _ _ _ h => h) (Or.inl ⟨?_, ?_⟩) (by assumption) ?_; rotate_left; (focus (first | rfl | (simp [Region.wanted, yielded]; done))); (focus (intro w hSw; (try dsimp only at hSw); go_simp; all_goals (with_reducible rfl))); try simp only [Act.put, List.getElem_toArray, List.getElem_cons_zero, List.getElem_cons_succ, List.setIfInBounds_toArray, List.set_cons_zero, List.set_cons_succ])
          (refine wpAnyH_take (i := 6) (oi := _) (v := ?_) rfl (by kernel_rfl) (by kernel_rfl) (by kernel_rfl) (fun _ _ _ h => h) (Or.inl ⟨?_, ?_⟩) (by assumption) ?_; rotate_left; (focus (first | rfl | (simp [Region.wanted, yielded]; done))); (focus (intro w hSw; (try dsimp only at hSw); go_simp; all_goals (with_reducible rfl))); try simp only [Act.put, List.getElem_toArray, List.getElem_cons_zero, List.getElem_cons_succ, List.setIfInBounds_toArray, List.set_cons_zero, List.set_cons_succ])
          (refine wpAnyH_ready (rs := [4]) (by kernel_rfl) (by simp) ?_; refine AllReadyH.cons (o := _) rfl (fun K hK => ?_) AllReadyH.nil; go_simp)
          refine (MA.out _).mono ?_
          rintro e wm ⟨Am, cm, rfl, om', hbm'⟩
          have hbm := drew_below hbm'
          have om : wm.ownsRow w8.heap.size 9 1 (.slice Am MD.length cm) MD.length (sv MD) := om'
          (refine hK.out _ _ hbm (fun hHeld2 => ?_); clear hK K hHeld; have hHeld := hHeld2; clear hHeld2; try simp only [Act.put, List.getElem_toArray, List.getElem_cons_zero, List.getElem_cons_succ, List.setIfInBounds_toArray, List.set_cons_zero, List.set_cons_succ])
          clear om' hbm' C0 C1 C2
          (refine wpAnyH_ready (rs := [7]) (by kernel_rfl) (by simp) ?_; refine AllReadyH.cons (o := _) rfl (fun K hK => ?_) AllReadyH.nil; go_simp)
          refine (CA.out _ hbm).mono ?_
          rintro e wc ⟨Ac, cc, rfl, oc, hbc⟩
          have hbm2 := hbm.trans (hbc.mono hbm.size)
          (refine hK.out _ _ hbm2 (fun hHeld2 => ?_); clear hK K hHeld; have hHeld := hHeld2; clear hHeld2; try simp only [Act.put, List.getElem_toArray, List.getElem_cons_zero, List.getElem_cons_succ, List.setIfInBounds_toArray, List.set_cons_zero, List.set_cons_succ])
          (refine wpAnyH_ready (rs := [8]) (by kernel_rfl) (by simp) ?_; refine AllReadyH.cons (o := _) rfl (fun K hK => ?_) AllReadyH.nil)
          refine step_appL (by simp [Region.wanted, yielded]) (.tmp 65) (.tmp 68) 22 rfl Tryd.underlying22 info_str rfl w8.heap.size (.slice Am MD.length cm) MD.length _ Ac CK.length cc (sv CK) (sv_cells _) rfl rfl (own_below om hbc (Nat.le_refl _)) (Rd.of_own oc) (sv_len _) lc0 (Nat.le_trans hbm.size hbc.size) (by omega) (by omega) ?_
          intro g6 c6 w6 hown6 hg6 hl6 hb6
          have hbm6 := hbm2.trans hb6
          (refine hK.out _ _ hbm6 (fun hHeld2 => ?_); clear hK K hHeld; have hHeld := hHeld2; clear hHeld2; try simp only [Act.put, List.getElem_toArray, List.getElem_cons_zero, List.getElem_cons_succ, List.setIfInBounds_toArray, List.set_cons_zero, List.set_cons_succ])
          have R6 : Rd w6 (some ⟨g6, 0, none⟩) (sv (MD ++ CK)) := by rw [sv_app]; exact Rd.of_own hown6
          (refine wpAnyH_ready (rs := [9]) (by kernel_rfl) (by simp) ?_; refine AllReadyH.cons (o := _) rfl (fun K hK => ?_) AllReadyH.nil; go_simp)
          refine (SA.out _ _ _ R6).mono ?_
          rintro e w7 ⟨rfl, hb7⟩
          have hbm7 := hbm6.trans (hb7.mono hbm6.size)
          (refine hK.out _ _ hbm7 (fun hHeld2 => ?_); clear hK K hHeld; have hHeld := hHeld2; clear hHeld2; try simp only [Act.put, List.getElem_toArray, List.getElem_cons_zero, List.getElem_cons_succ, List.setIfInBounds_toArray, List.set_cons_zero, List.set_cons_succ])
          (refine wpAnyH_take (i := 10) (oi := _) (v := ?_) rfl (by kernel_rfl) (by kernel_rfl) (by kernel_rfl) (fun _ _ _ h => h) (Or.inl ⟨?_, ?_⟩) (by assumption) ?_; rotate_left; (focus (first | rfl | (simp [Region.wanted, yielded]; done))); (focus (intro w hSw; (try dsimp only at hSw); go_simp; all_goals (with_reducible rfl))); try simp only [Act.put, List.getElem_toArray, List.getElem_cons_zero, List.getElem_cons_succ, List.setIfInBounds_toArray, List.set_cons_zero, List.set_cons_succ])
          (refine wpAnyH_take (i := 11) (oi := _) (v := ?_) rfl (by kernel_rfl) (by kernel_rfl) (by kernel_rfl) (fun _ _ _ h => h) (Or.inl ⟨?_, ?_⟩) (by assumption) ?_; rotate_left; (focus (first | rfl | (simp [Region.wanted, yielded]; done))); (focus (intro w hSw; (try dsimp only at hSw); go_simp; all_goals (with_reducible rfl))); try simp only [Act.put, List.getElem_toArray, List.getElem_cons_zero, List.getElem_cons_succ, List.setIfInBounds_toArray, List.set_cons_zero, List.set_cons_succ])
          (refine wpAnyH_done (by kernel_rfl) ?_ _; refine NoPanic.normal ?_)
          have BF := Lib.hid (Q.out.bel _ (Q.out.next _ _ B6a.out hbm7))
          clear om hbm oc hbc hbm2 hown6 hg6 hl6 hb6 hbm6 R6 hb7 hbm7 hHeld
          go_wp2_with fail
          go_ret
          exact ⟨rfl, BF.out⟩
end Go.Proofs.YthceonkdmcidcaaDoor
