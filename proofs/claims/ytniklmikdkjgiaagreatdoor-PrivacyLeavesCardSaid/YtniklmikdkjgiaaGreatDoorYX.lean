/- WALK: the statement PrivacyLeaves. -/
import Derived.Test.YtniklmikdkjgiaaGreatDoorYW
set_option linter.unusedSimpArgs false
set_option linter.unusedVariables false
namespace Go.Proofs.YtniklmikdkjgiaaGreatDoor
open Go.RowKit

theorem allFewR_three {a b c : RL} {n : Nat} : allFewR [a, b, c] n = (fewL (rcsC a.l) n && (fewL (rcsC b.l) n && fewL (rcsC c.l) n)) := by simp [allFewR]
set_option maxHeartbeats 8000000 in
set_option maxRecDepth 100000 in
theorem walk_PrivacyLeaves (A : Option Addr) (cA : Nat) (l : List RV) (B : Option Addr) (cB : Nat) (m : List RV) (C : Option Addr) (cC : Nat) (k : List RV) (w : World) (h : Rw w A l) (h2 : Rw w B m) (h3 : Rw w C k) (ht : Tab w) :
    Calls Tryz.prog 4 #[.slice A l.length cA, .slice B m.length cB, .slice C k.length cC] w fun e w' => e = .returned (.bool true) ∧ Below w.heap.size w w' := by
  have H1 := Lib.hid h
  have H2 := Lib.hid h2
  have H3 := Lib.hid h3
  have HT := Lib.hid ht
  have HD := Lib.hid (head_any w ht)
  obtain ⟨n1, hn1⟩ : ∃ n1, n1 = l.length := ⟨_, rfl⟩
  obtain ⟨n2, hn2⟩ : ∃ n2, n2 = m.length := ⟨_, rfl⟩
  obtain ⟨n3, hn3⟩ : ∃ n3, n3 = k.length := ⟨_, rfl⟩
  have N1 := Lib.hid hn1
  have N2 := Lib.hid hn2
  have N3 := Lib.hid hn3
  rw [← hn1, ← hn2, ← hn3]
  clear h h2 h3 ht hn1 hn2 hn3
  go_enter Tryz.func4, Tryz.ntmps4
  go_wp2_with fail
  (with_reducible refine HD.out.mono ?_)
  rintro e u1 ⟨rfl, b1⟩
  have B1 := Lib.hid b1
  obtain ⟨X, hX⟩ : ∃ X, X = u1.alloc (.cells #[.slice A n1 cA, .slice B n2 cB, .slice C n3 cC] 22) := ⟨_, rfl⟩
  have BX : Hid (Below w.heap.size w X) := Lib.hid (by rw [hX]; exact b1.alloc b1.size _)
  have FW := Lib.hid (few49_any (some ⟨u1.heap.size, 0, none⟩) 3 3 [⟨A, cA, l⟩, ⟨B, cB, m⟩, ⟨C, cC, k⟩] X rfl (by decide) (by rw [hX, N1.out, N2.out, N3.out]; exact Rd.of_row (heap_alloc_new u1 _) (List.prefix_refl _)) (fun s hs => by
    simp only [List.mem_cons, List.not_mem_nil, or_false] at hs
    rcases hs with rfl | rfl | rfl
    · exact H1.out.below BX.out
    · exact H2.out.below BX.out
    · exact H3.out.below BX.out))
  rw [allFewR_three] at FW
  have X0 := Lib.hid hX
  clear hX b1 HD B1
  go_wp2_with fail
  rw [← X0.out]
  (with_reducible refine FW.out.mono ?_)
  rintro e u2 ⟨rfl, b2⟩
  have B2 := Lib.hid (BX.out.trans (b2.mono BX.out.size))
  clear b2 FW X0 BX
  cases hf : (fewL (rcsC l) 16 && (fewL (rcsC m) 16 && fewL (rcsC k) 16))
  · go_wp2_with fail
    go_ret
    exact ⟨rfl, B2.out⟩
  · rw [Bool.and_eq_true, Bool.and_eq_true] at hf
    obtain ⟨f1, f2, f3⟩ := hf
    have R1 := Lib.hid (H1.out.rs (by decide) f1)
    have R2 := Lib.hid (H2.out.rs (by decide) f2)
    have R3 := Lib.hid (H3.out.rs (by decide) f3)
    have P : Hid (∀ (D E : Option Addr) (d e n n' : Nat) (x y : List RV) (u : World), n = x.length → n' = y.length → Below w.heap.size w u → Rs u D x → Rs u E y → Calls Tryz.prog 23 #[.slice D n d, .slice E n' e] u fun e w' => e = .returned (.bool (pubB (rcsC x) (rcsC y))) ∧ Below u.heap.size u w') := Lib.hid (fun D E d e n n' x y u hn hn' hb hx hy => ppublic_any D E d e x y n n' u hn hn' hx hy (HT.out.keep hb))
    clear f1 f2 f3 H1 H2 H3
    have PAB := Lib.hid (P.out A B cA cB n1 n2 l m u2 N1.out N2.out B2.out (R1.out.below B2.out) (R2.out.below B2.out))
    obtain ⟨q, hq⟩ : ∃ q, pubB (rcsC l) (rcsC m) = q := ⟨_, rfl⟩
    have HQ := Lib.hid hq
    rw [hq] at PAB
    clear hq
    go_wp2_with fail
    (with_reducible refine PAB.out.mono ?_)
    rintro e u3 ⟨rfl, b3⟩
    have B3 := Lib.hid (B2.out.trans (b3.mono B2.out.size))
    clear b3 B2 PAB
    have CA := Lib.hid (hclean A n1 cA l u3 N1.out (R1.out.below B3.out) (HT.out.keep B3.out))
    go_wp2_with fail
    (with_reducible refine CA.out.mono ?_)
    rintro e u4 ⟨⟨A4, c4, rfl, M4, -⟩, b4⟩
    have B4 := Lib.hid (B3.out.trans (b4.mono B3.out.size))
    have M4 := Lib.hid M4
    clear b4 B3 CA
    have CB := Lib.hid (hclean B n2 cB m u4 N2.out (R2.out.below B4.out) (HT.out.keep B4.out))
    go_wp2_with fail
    (with_reducible refine CB.out.mono ?_)
    rintro e u5 ⟨⟨A5, c5, rfl, M5, -⟩, b5⟩
    have B5 := Lib.hid (B4.out.trans (b5.mono B4.out.size))
    have M5 := Lib.hid M5
    have M4 := Lib.hid (M4.out.below b5)
    clear b5 B4 CB
    have SA := rsameall_any A4 A5 c4 c5 (cleanL (rcsC l) l) (cleanL (rcsC m) m) n1 n2 u5 (by rw [cleanL_len]; exact N1.out) (by rw [cleanL_len]; exact N2.out) M4.out M5.out
    rw [show all2 (fun a b => sameR a.c b.c) (cleanL (rcsC l) l) (cleanL (rcsC m) m) = q by rw [← HQ.out, leaves_same, ← clean_c, ← clean_c]; exact (all2_map (f := sameR) RV.c RV.c _ _).symm] at SA
    have SB := Lib.hid SA
    clear SA
    go_wp2_with fail
    (with_reducible refine SB.out.mono ?_)
    rintro e u6 ⟨rfl, b6⟩
    have B6 := Lib.hid (B5.out.trans (b6.mono B5.out.size))
    clear b6 B5 SB M4 M5
    have PBA := P.out B A cB cA n2 n1 m l u6 N2.out N1.out B6.out (R2.out.below B6.out) (R1.out.below B6.out)
    rw [← leaves_comm, HQ.out] at PBA
    have PB := Lib.hid PBA
    clear PBA
    cases q
    · go_wp2_with fail
      (with_reducible refine PB.out.mono ?_)
      rintro e u7 ⟨rfl, b7⟩
      have B7 := Lib.hid (B6.out.trans (b7.mono B6.out.size))
      clear b7 B6 PB
      have PAA := P.out A A cA cA n1 n1 l l u7 N1.out N1.out B7.out (R1.out.below B7.out) (R1.out.below B7.out)
      rw [leaves_refl] at PAA
      have PA2 := Lib.hid PAA
      clear PAA
      go_wp2_with fail
      (with_reducible refine PA2.out.mono ?_)
      rintro e v1 ⟨rfl, t1⟩
      have BV := Lib.hid (B7.out.trans (t1.mono B7.out.size))
      clear t1 PA2 B7
      have CE := Lib.hid (hclean A n1 cA l v1 N1.out (R1.out.below BV.out) (HT.out.keep BV.out))
      go_wp2_with fail
      (with_reducible refine CE.out.mono ?_)
      rintro e v2 ⟨⟨A20, c20, rfl, M20, -⟩, t2⟩
      have BU := Lib.hid (BV.out.trans (t2.mono BV.out.size))
      have PAE := P.out A A20 cA c20 n1 n1 l (cleanL (rcsC l) l) v2 N1.out (by rw [cleanL_len]; exact N1.out) BU.out (R1.out.below BU.out) M20
      rw [clean_c, leaves_clean] at PAE
      have PAF := Lib.hid PAE
      clear t2 CE BV PAE M20
      go_wp2_with fail
      (with_reducible refine PAF.out.mono ?_)
      rintro e v3 ⟨rfl, t3⟩
      have BT := Lib.hid (BU.out.trans (t3.mono BU.out.size))
      clear t3 PAF BU
      go_wp2_with fail
      go_ret
      exact ⟨rfl, BT.out⟩
    · go_wp2_with fail
      (with_reducible refine PB.out.mono ?_)
      rintro e u7 ⟨rfl, b7⟩
      have B7 := Lib.hid (B6.out.trans (b7.mono B6.out.size))
      clear b7 B6 PB
      have FA := Lib.hid (hforgot A n1 cA l u7 N1.out (R1.out.below B7.out) (HT.out.keep B7.out))
      go_wp2_with fail
      (with_reducible refine FA.out.mono ?_)
      rintro e u8 ⟨⟨A8, c8, rfl, M8⟩, b8⟩
      have B8 := Lib.hid (B7.out.trans (b8.mono B7.out.size))
      have M8 := Lib.hid M8
      clear b8 B7 FA
      have FB := hforgot B n2 cB m u8 N2.out (R2.out.below B8.out) (HT.out.keep B8.out)
      rw [← leaves_forgot HQ.out] at FB
      have FC := Lib.hid FB
      clear FB
      have z8 := forgot_len (rcsC l)
      generalize forgotF (rcsC l) = F at *
      obtain ⟨n8, hn8⟩ : ∃ n8, n8 = F.length := ⟨_, rfl⟩
      have N8 := Lib.hid hn8
      simp only [← hn8] at FC z8 ⊢
      clear hn8
      go_wp2_with fail
      (with_reducible refine FC.out.mono ?_)
      rintro e u9 ⟨⟨A9, c9, rfl, M9⟩, b9⟩
      have B9 := Lib.hid (B8.out.trans (b9.mono B8.out.size))
      have SM := lsame_any A8 A9 c8 c9 F F n8 n8 u9 N8.out N8.out (by omega) (by omega) (M8.out.below b9) M9
      rw [decide_eq_true rfl] at SM
      have SN := Lib.hid SM
      clear b9 B8 FC SM M8 M9
      go_wp2_with fail
      (with_reducible refine SN.out.mono ?_)
      rintro e u10 ⟨rfl, b10⟩
      have B10 := Lib.hid (B9.out.trans (b10.mono B9.out.size))
      clear b10 B9 SN
      have PBC := Lib.hid (P.out B C cB cC n2 n3 m k u10 N2.out N3.out B10.out (R2.out.below B10.out) (R3.out.below B10.out))
      obtain ⟨r, hr⟩ : ∃ r, pubB (rcsC m) (rcsC k) = r := ⟨_, rfl⟩
      have HR := Lib.hid hr
      rw [hr] at PBC
      clear hr
      go_wp2_with fail
      (with_reducible refine PBC.out.mono ?_)
      rintro e u11 ⟨rfl, b11⟩
      have B11 := Lib.hid (B10.out.trans (b11.mono B10.out.size))
      clear b11 B10 PBC
      cases r
      · have B7 := B11
        have PAA := P.out A A cA cA n1 n1 l l u11 N1.out N1.out B7.out (R1.out.below B7.out) (R1.out.below B7.out)
        rw [leaves_refl] at PAA
        have PA2 := Lib.hid PAA
        clear PAA
        go_wp2_with fail
        (with_reducible refine PA2.out.mono ?_)
        rintro e v1 ⟨rfl, t1⟩
        have BV := Lib.hid (B7.out.trans (t1.mono B7.out.size))
        clear t1 PA2 B7 B11
        have CE := Lib.hid (hclean A n1 cA l v1 N1.out (R1.out.below BV.out) (HT.out.keep BV.out))
        go_wp2_with fail
        (with_reducible refine CE.out.mono ?_)
        rintro e v2 ⟨⟨A20, c20, rfl, M20, -⟩, t2⟩
        have BU := Lib.hid (BV.out.trans (t2.mono BV.out.size))
        have PAE := P.out A A20 cA c20 n1 n1 l (cleanL (rcsC l) l) v2 N1.out (by rw [cleanL_len]; exact N1.out) BU.out (R1.out.below BU.out) M20
        rw [clean_c, leaves_clean] at PAE
        have PAF := Lib.hid PAE
        clear t2 CE BV PAE M20
        go_wp2_with fail
        (with_reducible refine PAF.out.mono ?_)
        rintro e v3 ⟨rfl, t3⟩
        have BT := Lib.hid (BU.out.trans (t3.mono BU.out.size))
        clear t3 PAF BU
        go_wp2_with fail
        go_ret
        exact ⟨rfl, BT.out⟩
      · have PAC := P.out A C cA cC n1 n3 l k u11 N1.out N3.out B11.out (R1.out.below B11.out) (R3.out.below B11.out)
        rw [leaves_trans HQ.out HR.out] at PAC
        have PAD := Lib.hid PAC
        clear PAC
        go_wp2_with fail
        (with_reducible refine PAD.out.mono ?_)
        rintro e u12 ⟨rfl, b12⟩
        have B12 := Lib.hid (B11.out.trans (b12.mono B11.out.size))
        clear b12 B11 PAD
        have PAA := P.out A A cA cA n1 n1 l l u12 N1.out N1.out B12.out (R1.out.below B12.out) (R1.out.below B12.out)
        rw [leaves_refl] at PAA
        have PA2 := Lib.hid PAA
        clear PAA
        go_wp2_with fail
        (with_reducible refine PA2.out.mono ?_)
        rintro e v1 ⟨rfl, t1⟩
        have BV := Lib.hid (B12.out.trans (t1.mono B12.out.size))
        clear t1 PA2 B12
        have CE := Lib.hid (hclean A n1 cA l v1 N1.out (R1.out.below BV.out) (HT.out.keep BV.out))
        go_wp2_with fail
        (with_reducible refine CE.out.mono ?_)
        rintro e v2 ⟨⟨A20, c20, rfl, M20, -⟩, t2⟩
        have BU := Lib.hid (BV.out.trans (t2.mono BV.out.size))
        have PAE := P.out A A20 cA c20 n1 n1 l (cleanL (rcsC l) l) v2 N1.out (by rw [cleanL_len]; exact N1.out) BU.out (R1.out.below BU.out) M20
        rw [clean_c, leaves_clean] at PAE
        have PAF := Lib.hid PAE
        clear t2 CE BV PAE M20
        go_wp2_with fail
        (with_reducible refine PAF.out.mono ?_)
        rintro e v3 ⟨rfl, t3⟩
        have BT := Lib.hid (BU.out.trans (t3.mono BU.out.size))
        clear t3 PAF BU
        go_wp2_with fail
        go_ret
        exact ⟨rfl, BT.out⟩
end Go.Proofs.YtniklmikdkjgiaaGreatDoor
