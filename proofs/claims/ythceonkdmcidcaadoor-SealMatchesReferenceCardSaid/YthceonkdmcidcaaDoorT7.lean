/- WALK: SealMatchesReference. -/
import Derived.Test.YthceonkdmcidcaaDoorUI
import Derived.Test.YthceonkdmcidcaaDoorUJ
set_option linter.unusedSimpArgs false
set_option linter.unusedVariables false
namespace Go.Proofs.YthceonkdmcidcaaDoor
open Go.RowKit

/-- a seal and an error come back -/
def SgPost (u : World) (z E : Int) (SG PT : List (List UInt8)) (e : Ending) (w' : World) : Prop :=
  ∃ A c A' c', e = .returned (.tuple #[.agg #[.int .i64 z, .slice A SG.length c, .slice A' PT.length c'], .int .i64 E]) ∧ Rd w' A (sv SG) ∧ Rd w' A' (sv PT) ∧ Below u.heap.size u w'
theorem sg_of {u : World} {i : Nat} {SG PT : List (List UInt8)} {e : Ending} {w' : World} (h : SignPost u i SG PT e w') : SgPost u (i : Int) 0 SG PT e w' := by
  obtain ⟨A1, c1, A2, c2, h1, -, -, -, -, h2, h3, h4⟩ := h
  exact ⟨A1, c1, A2, c2, h1, h2, h3, h4⟩
theorem sg_bad {u : World} {e : Ending} {w' : World} (h : e = .returned (.tuple #[.agg #[.int .i64 0, .slice none 0 0, .slice none 0 0], .int .i64 1]) ∧ Below u.heap.size u w') : SgPost u 0 1 [] [] e w' :=
  ⟨none, 0, none, 0, h.1, Rd.nil_ _ _, Rd.nil_ _ _, h.2⟩
def BadF (h i : Int) : Prop := h < 0 ∨ (0 ≤ h ∧ 8 < h) ∨ (0 ≤ h ∧ h ≤ 8 ∧ i < 0) ∨ (0 ≤ h ∧ h ≤ 8 ∧ 0 ≤ i ∧ ((2 ^ h.toNat : Nat) : Int) ≤ i)
set_option maxRecDepth 100000 in
set_option maxHeartbeats 4000000 in
theorem rsign_bad (s m : ByteArray) (h i : Int) (w : World) (hbad : BadF h i) :
    Calls Tryd.prog 16 #[.string s, .int .i64 h, .int .i64 i, .string m] w fun e w' => e = .returned (.tuple #[.agg #[.int .i64 0, .slice none 0 0, .slice none 0 0], .int .i64 1]) ∧ Below w.heap.size w w' := by
  obtain ⟨B, hB⟩ : ∃ B, w.heap.size = B := ⟨_, rfl⟩
  have HW : Hid (w.heap.size = B) := Lib.hid hB
  obtain ⟨W0, hW0⟩ : ∃ W, W = w.alloc (.cells #[.int .i64 0, .slice none 0 0, .slice none 0 0] 24) := ⟨_, rfl⟩
  have K0 : Hid (W0.heap[B]? = some (.cells #[.int .i64 0, .slice none 0 0, .slice none 0 0] 24 (0, 0))) := Lib.hid (by rw [hW0, ← hB]; exact heap_alloc_new w _)
  have L0 : Hid (Below B w W0) := Lib.hid (by rw [hW0, ← hB]; exact (Below.refl _ _).alloc (Nat.le_refl _) _)
  have FIN : Hid (∀ (e : Ending), e = .returned (.tuple #[.agg #[.int .i64 0, .slice none 0 0, .slice none 0 0], .int .i64 1]) → e = .returned (.tuple #[.agg #[.int .i64 0, .slice none 0 0, .slice none 0 0], .int .i64 1]) ∧ Below w.heap.size w W0) := Lib.hid (fun e h => ⟨h, by rw [HW.out]; exact L0.out⟩)
  obtain ⟨x0, x1, x2⟩ := cells3 K0.out
  have f0 := free_blk K0.out 0
  have f1 := free_blk K0.out 1
  have f2 := free_blk K0.out 2
  rcases hbad with a1 | ⟨a1, a2⟩ | ⟨a1, a2, a3⟩ | ⟨a1, a2, a3, a4⟩
  · have d1 : decide (h < 0) = true := by simpa using a1
    clear a1
    go_enter Tryd.func16, Tryd.ntmps16
    go_wp2_with fail
    rw [← hW0]
    clear hW0 hB
    exact bodyPost_ret (v := .tuple #[.agg #[.int .i64 0, .slice none 0 0, .slice none 0 0], .int .i64 1]) (by simp [results, Tryd.results16, go_sem, x0, x1, x2]) rfl (FIN.out _ rfl)
  · have d1 : decide (h < 0) = false := by simpa using a1
    have d2 : decide (8 < h) = true := by simpa using a2
    clear a1 a2
    go_enter Tryd.func16, Tryd.ntmps16
    go_wp2_with fail
    rw [← hW0]
    clear hW0 hB
    exact bodyPost_ret (v := .tuple #[.agg #[.int .i64 0, .slice none 0 0, .slice none 0 0], .int .i64 1]) (by simp [results, Tryd.results16, go_sem, x0, x1, x2]) rfl (FIN.out _ rfl)
  · have d1 : decide (h < 0) = false := by simpa using a1
    have d2 : decide (8 < h) = false := by simpa using a2
    have d3 : decide (i < 0) = true := by simpa using a3
    clear a1 a2 a3
    go_enter Tryd.func16, Tryd.ntmps16
    go_wp2_with fail
    rw [← hW0]
    clear hW0 hB
    exact bodyPost_ret (v := .tuple #[.agg #[.int .i64 0, .slice none 0 0, .slice none 0 0], .int .i64 1]) (by simp [results, Tryd.results16, go_sem, x0, x1, x2]) rfl (FIN.out _ rfl)
  · obtain ⟨k, rfl⟩ : ∃ k : Nat, h = k := ⟨h.toNat, by omega⟩
    rw [Int.toNat_natCast] at a4
    have d1 : decide ((k : Int) < 0) = false := by simp
    have d2 : decide ((8 : Int) < (k : Int)) = false := by simp; omega
    have d3 : decide (i < 0) = false := by simpa using a3
    have PA := Lib.hid (fun u => rpower_any (k : Int) k u rfl (by omega))
    generalize 2 ^ k = n at *
    have d4 : decide ((n : Int) ≤ i) = true := by simpa using a4
    clear a1 a2 a3 a4
    go_enter Tryd.func16, Tryd.ntmps16
    go_wp2_with fail
    refine (PA.out _).mono ?_
    rintro e wp ⟨rfl, rfl⟩
    go_wp2_with fail
    rw [← hW0]
    clear hW0 hB
    exact bodyPost_ret (v := .tuple #[.agg #[.int .i64 0, .slice none 0 0, .slice none 0 0], .int .i64 1]) (by simp [results, Tryd.results16, go_sem, x0, x1, x2]) rfl (FIN.out _ rfl)
/-- the four calls, whatever the arguments are -/
theorem mref_calls (s m : ByteArray) (x y : Int) (hs : s.size ≤ 300) (hm : m.size ≤ 300) (hx : ¬ (3 < x ∧ x ≤ 8)) :
    ∃ (PB : ByteArray) (E1 E2 z : Int) (SG PT : List (List UInt8)), SG.length ≤ 100 ∧ PT.length ≤ 100 ∧
      (∀ u, Tab u → Calls Tryd.prog 13 #[.string s, .int .i64 x] u fun e w' => e = .returned (.tuple #[.string PB, .int .i64 E1]) ∧ Below u.heap.size u w') ∧
      (∀ u, Calls Tryd.prog 14 #[.string s, .int .i64 x] u fun e w' => e = .returned (.tuple #[.string PB, .int .i64 E1]) ∧ Below u.heap.size u w') ∧
      (∀ u, Tab u → Calls Tryd.prog 15 #[.string s, .int .i64 x, .int .i64 y, .string m] u (SgPost u z E2 SG PT)) ∧
      (∀ u, Calls Tryd.prog 16 #[.string s, .int .i64 x, .int .i64 y, .string m] u (SgPost u z E2 SG PT)) := by
  by_cases hb : x < 0 ∨ 8 < x
  · refine ⟨⟨#[]⟩, 1, 1, 0, [], [], by simp, by simp, fun u _ => ?_, fun u => ?_, fun u _ => ?_, fun u => ?_⟩
    · exact (public_bad s x u hb).mono fun e w' ⟨h1, h2⟩ => ⟨h1, h2 ▸ Below.refl _ _⟩
    · exact (rpublic_bad s x u hb).mono fun e w' ⟨h1, h2⟩ => ⟨h1, h2 ▸ Below.refl _ _⟩
    · exact (sign_bad s m x y u (by rcases hb with h | h; exact .inl h; exact .inr (.inl h))).mono fun e w' h => sg_bad h
    · exact (rsign_bad s m x y u (by rcases hb with h | h; exact .inl h; exact .inr (.inl ⟨by omega, h⟩))).mono fun e w' h => sg_bad h
  · obtain ⟨h, rfl⟩ : ∃ h : Nat, x = h := ⟨x.toNat, by omega⟩
    have hh : h ≤ 8 := by omega
    by_cases hi : 0 ≤ y ∧ y < ((2 ^ h : Nat) : Int)
    · obtain ⟨i, rfl⟩ : ∃ i : Nat, y = i := ⟨y.toNat, by omega⟩
      have hi2 : i < 2 ^ h := by omega
      refine ⟨mkB (Sl.publicF s.data.toList h), 0, 0, i, Sl.sigF s.data.toList i m.data.toList, Sl.pathS s.data.toList h i, by simp [Sl.sigF], by rw [show (Sl.pathS s.data.toList h i).length = h from Sl.path_len _ _ _]; omega, fun u ht => ?_, fun u => ?_, fun u ht => ?_, fun u => ?_⟩
      · exact public_any s h u hs hh ht
      · exact rpublic_any s h u hs hh
      · exact (sign_any s m h i u hs (by omega) hh hi2 ht).mono fun e w' h => sg_of h
      · exact (rsign_any s m h i u hs (by omega) hh hi2).mono fun e w' h => sg_of h
    · refine ⟨mkB (Sl.publicF s.data.toList h), 0, 1, 0, [], [], by simp, by simp, fun u ht => ?_, fun u => ?_, fun u _ => ?_, fun u => ?_⟩
      · exact public_any s h u hs hh ht
      · exact rpublic_any s h u hs hh
      · exact (sign_bad s m (h : Int) y u (by
          by_cases h0 : y < 0
          · exact .inr (.inr (.inl h0))
          · exact .inr (.inr (.inr ⟨h, rfl, hh, by omega⟩)))).mono fun e w' h => sg_bad h
      · exact (rsign_bad s m (h : Int) y u (by
          by_cases h0 : y < 0
          · exact .inr (.inr (.inl ⟨by omega, by omega, h0⟩))
          · exact .inr (.inr (.inr ⟨by omega, by omega, by omega, by rw [Int.toNat_natCast]; omega⟩)))).mono fun e w' h => sg_bad h
/-- what is known behind the law's tests -/
def MFacts (s m pub : ByteArray) (x : Int) (S P : List (List UInt8)) (v : Bool) : Prop := v = false → s.size ≤ 300 ∧ m.size ≤ 300 ∧ ¬ (3 < x ∧ x ≤ 8) ∧ (S.length ≤ 30 ∧ ∀ t ∈ S, t.length ≤ 100) ∧ (P.length ≤ 30 ∧ ∀ t ∈ P, t.length ≤ 100)
theorem mfacts_t {s m pub : ByteArray} {x : Int} {S P : List (List UInt8)} : MFacts s m pub x S P true := fun h => by cases h
set_option maxRecDepth 100000 in
set_option maxHeartbeats 8000000 in
theorem walk_SealMatchesReference (s : ByteArray) (x y : Int) (m pub : ByteArray) (idx : Int) (A1 A2 : Option Addr) (c1 c2 : Nat) (S P : List (List UInt8)) (w : World) (hs0 : s.size ≤ 9223372036854775807) (hx0 : (Lit.int .i64 x).wf = true) (hy0 : (Lit.int .i64 y).wf = true) (hm0 : m.size ≤ 9223372036854775807) (hp0 : pub.size ≤ 9223372036854775807)
    (hS : S.length ≤ c1) (hc1 : c1 ≤ 8796093022208) (hP : P.length ≤ c2) (hc2 : c2 ≤ 8796093022208) (r1 : Rd w A1 (sv S)) (r2 : Rd w A2 (sv P)) (ht : Tab w) :
    Calls Tryd.prog 3 #[.string s, .int .i64 x, .int .i64 y, .string m, .string pub, .agg #[.int .i64 idx, .slice A1 S.length c1, .slice A2 P.length c2]] w fun e w' => e = .returned (.bool true) ∧ Below w.heap.size w w' := by
  obtain ⟨B, hB⟩ : ∃ B, w.heap.size = B := ⟨_, rfl⟩
  obtain ⟨n1, hn1⟩ : ∃ n, S.length = n := ⟨_, rfl⟩
  obtain ⟨n2, hn2⟩ : ∃ n, P.length = n := ⟨_, rfl⟩
  have N1 := Lib.hid hn1; have N2 := Lib.hid hn2
  rw [hn1, hn2]
  rw [hn1] at hS; rw [hn2] at hP
  obtain ⟨W0, hW0⟩ : ∃ W0, W0 = w.alloc (.cells #[.int .i64 idx, .slice A1 n1 c1, .slice A2 n2 c2] 24) := ⟨_, rfl⟩
  have Q := Lib.hid (sealIn_mk (idx := idx) (A1 := A1) (A2 := A2) (n1 := n1) (c1 := c1) (n2 := n2) (c2 := c2) hB hW0 ht r1 r2)
  have HD := Lib.hid (shead_any W0 (Q.out.tab W0 (Below.refl _ _)))
  have hS2 : S.length ≤ 8796093022208 := by omega
  have hP2 : P.length ≤ 8796093022208 := by omega
  have FA : Hid (∀ u, Below (B + 1) W0 u → Calls Tryd.prog 12 #[.agg #[.int .i64 idx, .slice A1 n1 c1, .slice A2 n2 c2]] u fun e w' => SomeBool (Few2Said S P) e ∧ Below u.heap.size u w') := Lib.hid (fun u hu => by
    rw [← hn1, ← hn2]; exact few2_any idx A1 A2 c1 c2 S P u hS2 hP2 (Q.out.r1 u hu) (Q.out.r2 u hu))
  clear hn1 hn2 r1 r2 hS2 hP2 hx0 hy0
  go_enter Tryd.func3, Tryd.ntmps3
  go_wp2_with fail
  rw [← hW0]
  clear hW0 hB
  refine HD.out.mono ?_
  rintro e w1 ⟨rfl, hb1⟩
  have B1 := Lib.hid (Q.out.next _ _ (Below.refl _ _) hb1); clear hb1 HD
  go_upto_region 2 with fail
  go_cut [13, 42] (fun s13 s42 wx => s13 = .bool true ∧ ∃ v : Bool, s42 = .bool v ∧ Hid (MFacts s m pub x S P v) ∧ Hid (Below (B + 1) W0 wx))
  case first =>
    have B1a : Hid (Below (B + 1) W0 (w1.alloc (.cells #[.string s, .string m, .string pub] 9))) := Lib.hid (B1.out.alloc (Q.out.sz _ B1.out) _)
    go_wp2_with fail
    refine (short3_any s m pub w1).mono ?_
    rintro e w1' ⟨⟨b, rfl, hfew⟩, rfl⟩
    have FW := Lib.hid hfew; clear hfew
    cases b with
    | false =>
      go_wp2_with fail
      go_meet
      exact ⟨rfl, true, rfl, Lib.hid mfacts_t, B1a⟩
    | true =>
      have hs : s.size ≤ 300 := FW.out rfl s (by simp)
      have hm : m.size ≤ 300 := FW.out rfl m (by simp)
      obtain ⟨w2, hw2⟩ : ∃ W, W = w1.alloc (.cells #[.string s, .string m, .string pub] 9) := ⟨_, rfl⟩
      rw [← hw2] at B1a ⊢
      clear FW hw2 B1
      obtain ⟨x0, x1, x2⟩ := cells3 (Q.out.blk _ B1a.out)
      go_wp2_with fail
      refine (FA.out _ B1a.out).mono ?_
      rintro e w3 ⟨⟨b, rfl, hf⟩, hb3⟩
      have B3 := Lib.hid (Q.out.next _ _ B1a.out hb3); clear hb3 x0 x1 x2 B1a
      have FW := Lib.hid hf; clear hf
      cases b with
      | false =>
        go_wp2_with fail
        go_meet
        exact ⟨rfl, true, rfl, Lib.hid mfacts_t, B3⟩
      | true =>
        by_cases h3 : 3 < x
        · have d1 : decide (3 < x) = true := by simpa using h3
          by_cases h8 : x ≤ 8
          · have d2 : decide (x ≤ 8) = true := by simpa using h8
            clear h3 h8
            go_wp2_with fail
            go_meet
            exact ⟨rfl, true, rfl, Lib.hid mfacts_t, B3⟩
          · have d2 : decide (x ≤ 8) = false := by simpa using h8
            have MF : Hid (MFacts s m pub x S P false) := Lib.hid (fun _ => ⟨hs, hm, fun h => h8 h.2, FW.out rfl⟩)
            clear h3 h8
            go_wp2_with fail
            go_meet
            exact ⟨rfl, false, rfl, MF, B3⟩
        · have d1 : decide (3 < x) = false := by simpa using h3
          have MF : Hid (MFacts s m pub x S P false) := Lib.hid (fun _ => ⟨hs, hm, fun h => h3 h.1, FW.out rfl⟩)
          clear h3
          go_wp2_with fail
          go_meet
          exact ⟨rfl, false, rfl, MF, B3⟩
  case rest =>
    obtain ⟨rfl, v, rfl, hmf, hb⟩ := hcut
    obtain ⟨w3, hw3⟩ : ∃ wy, wy = wc := ⟨_, rfl⟩
    rw [← hw3] at hb ⊢
    clear hw3 wc FA B1
    cases v with
    | true =>
      go_wp2_with fail
      go_ret
      exact ⟨rfl, Q.out.bel _ hb.out⟩
    | false =>
      obtain ⟨hs, hm, hx, ⟨l1, s1⟩, ⟨l2, s2⟩⟩ := hmf.out rfl
      obtain ⟨PB, E1, E2, z, SG, PT, lg, lp, p1, p2, p3, p4⟩ := mref_calls s m x y hs hm hx
      have C1 := Lib.hid p1; have C2 := Lib.hid p2; have C3 := Lib.hid p3; have C4 := Lib.hid p4
      have VA : Hid (∀ pb : ByteArray, ∃ v : Bool, ∀ u, Below (B + 1) W0 u → (Calls Tryd.prog 18 #[.string pb, .string m, .agg #[.int .i64 idx, .slice A1 n1 c1, .slice A2 n2 c2]] u fun e w' => e = .returned (.bool v) ∧ Below u.heap.size u w') ∧ Calls Tryd.prog 19 #[.string pb, .string m, .agg #[.int .i64 idx, .slice A1 n1 c1, .slice A2 n2 c2]] u fun e w' => e = .returned (.bool v) ∧ Below u.heap.size u w') := Lib.hid (fun pb => ⟨verB pb.data.toList m.data.toList idx S P, fun u hu => by
        have h1 := verify_any pb m idx A1 A2 c1 c2 S P u (by omega) ⟨Q.out.r1 u hu, by omega, len_100 s1⟩ ⟨Q.out.r2 u hu, by omega, len_100 s2⟩ (Q.out.tab u hu)
        have h2 := rverify_any pb m idx A1 A2 c1 c2 S P u (by omega) ⟨Q.out.r1 u hu, by omega, len_100 s1⟩ ⟨Q.out.r2 u hu, by omega, len_100 s2⟩ (Q.out.tab u hu)
        rw [N1.out, N2.out] at h1 h2
        exact ⟨h1, h2⟩⟩)
      obtain ⟨v1, hv1⟩ := VA.out pub
      obtain ⟨v2, hv2⟩ := VA.out PB
      have V1 := Lib.hid hv1; have V2 := Lib.hid hv2
      clear p1 p2 p3 p4 hmf l1 s1 l2 s2 VA hv1 hv2 hx
      go_wp2_with fail
      refine (C1.out _ (Q.out.tab _ hb.out)).mono ?_
      rintro e w4 ⟨rfl, hb4⟩
      have B4 := Lib.hid (Q.out.next _ _ hb.out hb4); clear hb4 hb
      go_wp2_with fail
      refine (C2.out _).mono ?_
      rintro e w5 ⟨rfl, hb5⟩
      have B5 := Lib.hid (Q.out.next _ _ B4.out hb5); clear hb5 B4
      go_wp2_with fail
      refine (C3.out _ (Q.out.tab _ B5.out)).mono ?_
      rintro e w6 ⟨A3, c3, A4, c4, rfl, r3, r4, hb6⟩
      have B6 := Lib.hid (Q.out.next _ _ B5.out hb6); clear hb6 B5
      obtain ⟨n3, hn3⟩ : ∃ n, SG.length = n := ⟨_, rfl⟩
      obtain ⟨n4, hn4⟩ : ∃ n, PT.length = n := ⟨_, rfl⟩
      have N3 := Lib.hid hn3; have N4 := Lib.hid hn4
      rw [hn3, hn4]
      have R3' := Lib.hid (r3.alloc (.cells #[.int .i64 z, .slice A3 n3 c3, .slice A4 n4 c4] 24)); have R4' := Lib.hid (r4.alloc (.cells #[.int .i64 z, .slice A3 n3 c3, .slice A4 n4 c4] 24))
      have B6a : Hid (Below (B + 1) W0 (w6.alloc (.cells #[.int .i64 z, .slice A3 n3 c3, .slice A4 n4 c4] 24))) := Lib.hid (B6.out.alloc (Q.out.sz _ B6.out) _)
      have G6 := Lib.hid (heap_alloc_new w6 (.cells #[.int .i64 z, .slice A3 n3 c3, .slice A4 n4 c4] 24))
      obtain ⟨q1, hq1⟩ : ∃ q, w6.heap.size = q := ⟨_, rfl⟩
      rw [hq1] at G6
      obtain ⟨w7, hw7⟩ : ∃ W, W = w6.alloc (.cells #[.int .i64 z, .slice A3 n3 c3, .slice A4 n4 c4] 24) := ⟨_, rfl⟩
      rw [← hw7] at B6a R3' R4' G6
      clear hn3 hn4 r3 r4 B6
      go_upto_region 7 with fail
      rw [← hw7]
      clear hw7 hq1
      go_wp2_with fail
      refine (C4.out _).mono ?_
      rintro e w8 ⟨A5, c5, A6, c6, rfl, r5, r6, hb8⟩
      rw [N3.out, N4.out]
      have B8 := Lib.hid (Q.out.next _ _ B6a.out hb8)
      have R3a := Lib.hid (R3'.out.below hb8); have R4a := Lib.hid (R4'.out.below hb8)
      have G8 := Lib.hid ((hb8.block q1 (lt_of_block G6.out)).trans G6.out)
      clear hb8 B6a R3' R4' G6
      have R5a := Lib.hid (r5.alloc (.cells #[.int .i64 z, .slice A5 n3 c5, .slice A6 n4 c6] 24)); have R6a := Lib.hid (r6.alloc (.cells #[.int .i64 z, .slice A5 n3 c5, .slice A6 n4 c6] 24))
      have R3b := Lib.hid (R3a.out.alloc (.cells #[.int .i64 z, .slice A5 n3 c5, .slice A6 n4 c6] 24)); have R4b := Lib.hid (R4a.out.alloc (.cells #[.int .i64 z, .slice A5 n3 c5, .slice A6 n4 c6] 24))
      have B9 : Hid (Below (B + 1) W0 (w8.alloc (.cells #[.int .i64 z, .slice A5 n3 c5, .slice A6 n4 c6] 24))) := Lib.hid (B8.out.alloc (Q.out.sz _ B8.out) _)
      have G9 : Hid ((w8.alloc (.cells #[.int .i64 z, .slice A5 n3 c5, .slice A6 n4 c6] 24)).heap[q1]? = some (.cells #[.int .i64 z, .slice A3 n3 c3, .slice A4 n4 c4] 24 (0, 0))) := Lib.hid ((alloc_old _ _ (lt_of_block G8.out)).trans G8.out)
      have H9 := Lib.hid (heap_alloc_new w8 (.cells #[.int .i64 z, .slice A5 n3 c5, .slice A6 n4 c6] 24))
      obtain ⟨q2, hq2⟩ : ∃ q, w8.heap.size = q := ⟨_, rfl⟩
      rw [hq2] at H9
      obtain ⟨w9, hw9⟩ : ∃ W, W = w8.alloc (.cells #[.int .i64 z, .slice A5 n3 c5, .slice A6 n4 c6] 24) := ⟨_, rfl⟩
      rw [← hw9] at B9 R5a R6a R3b R4b G9 H9
      clear r5 r6 B8 R3a R4a G8
      have SM : Hid (Calls Tryd.prog 17 #[.agg #[.int .i64 z, .slice A3 n3 c3, .slice A4 n4 c4], .agg #[.int .i64 z, .slice A5 n3 c5, .slice A6 n4 c6]] w9 fun e w' => e = .returned (.bool true) ∧ Below w9.heap.size w9 w') := Lib.hid (by
        have := same2_any z z A3 A4 A5 A6 c3 c4 c5 c6 SG SG PT PT w9 (by omega) (by omega) (by omega) (by omega) R3b.out R4b.out R5a.out R6a.out
        rw [N3.out, N4.out, same2F_refl] at this
        exact this)
      have eB := str_eq_t (rfl : PB = PB)
      have e1 : (E1 == E1) = true := by simp
      have e2 : (E2 == E2) = true := by simp
      obtain ⟨x0, x1, x2⟩ := cells3 G9.out
      obtain ⟨y0, y1, y2⟩ := cells3 H9.out
      go_upto_region 8 with fail
      rw [← hw9]
      clear hw9 hq2
      go_wp2_with fail
      refine SM.out.mono ?_
      rintro e w10 ⟨rfl, hb10⟩
      have B10 := Lib.hid (Q.out.next _ _ B9.out hb10)
      clear hb10 B9 R5a R6a R3b R4b G9 H9 x0 x1 x2 y0 y1 y2 SM eB e1 e2
      have D0 : ∀ w', Below (B + 1) W0 w' → w'.cell? ⟨B, 0, none⟩ = some (.int .i64 idx) := fun w' h => (cells3 (Q.out.blk _ h)).1
      have D1 : ∀ w', Below (B + 1) W0 w' → w'.cell? ⟨B, 1, none⟩ = some (.slice A1 n1 c1) := fun w' h => (cells3 (Q.out.blk _ h)).2.1
      have D2 : ∀ w', Below (B + 1) W0 w' → w'.cell? ⟨B, 2, none⟩ = some (.slice A2 n2 c2) := fun w' h => (cells3 (Q.out.blk _ h)).2.2
      have ev1 : (v1 == v1) = true := by simp
      have ev2 : (v2 == v2) = true := by simp
      go_wp2_with fail
      (refine wp_region_noPanic ?_; refine wp_region_held_drew (S := (fun w' => Below (B + 1) W0 w')) (by kernel_rfl) ?_ (fun hHeld => ?_); exact (B10.out.drew))
      (refine wpAnyH_take (i := 0) (oi := _) (v := ?_) rfl (by kernel_rfl) (by kernel_rfl) (by kernel_rfl) (fun _ _ _ h => h) (Or.inl ⟨?_, ?_⟩) (by assumption) ?_; rotate_left; (focus (first | rfl | (simp [Region.wanted, yielded]; done))); (focus (intro w hSw; (try dsimp only at hSw); go_simp; all_goals (with_reducible rfl))); try simp only [Act.put, List.getElem_toArray, List.getElem_cons_zero, List.getElem_cons_succ, List.setIfInBounds_toArray, List.set_cons_zero, List.set_cons_succ])
      (refine wpAnyH_take (i := 1) (oi := _) (v := ?_) rfl (by kernel_rfl) (by kernel_rfl) (by kernel_rfl) (fun _ _ _ h => h) (Or.inl ⟨?_, ?_⟩) (by assumption) ?_; rotate_left; (focus (first | rfl | (simp [Region.wanted, yielded]; done))); (focus (intro w hSw; (try dsimp only at hSw); go_simp; all_goals (with_reducible rfl))); try simp only [Act.put, List.getElem_toArray, List.getElem_cons_zero, List.getElem_cons_succ, List.setIfInBounds_toArray, List.set_cons_zero, List.set_cons_succ])
      (refine wpAnyH_take (i := 2) (oi := _) (v := ?_) rfl (by kernel_rfl) (by kernel_rfl) (by kernel_rfl) (fun _ _ _ h => h) (Or.inl ⟨?_, ?_⟩) (by assumption) ?_; rotate_left; (focus (first | rfl | (simp [Region.wanted, yielded]; done))); (focus (intro w hSw; (try dsimp only at hSw); go_simp; all_goals (with_reducible rfl))); try simp only [Act.put, List.getElem_toArray, List.getElem_cons_zero, List.getElem_cons_succ, List.setIfInBounds_toArray, List.set_cons_zero, List.set_cons_succ])
      (refine wpAnyH_take (i := 3) (oi := _) (v := ?_) rfl (by kernel_rfl) (by kernel_rfl) (by kernel_rfl) (fun _ _ _ h => h) (Or.inl ⟨?_, ?_⟩) (by assumption) ?_; rotate_left; (focus (first | rfl | (simp [Region.wanted, yielded]; done))); (focus (intro w hSw; (try dsimp only at hSw); go_simp; all_goals (with_reducible rfl))); try simp only [Act.put, List.getElem_toArray, List.getElem_cons_zero, List.getElem_cons_succ, List.setIfInBounds_toArray, List.set_cons_zero, List.set_cons_succ])
      (refine wpAnyH_take (i := 4) (oi := _) (v := ?_) rfl (by kernel_rfl) (by kernel_rfl) (by kernel_rfl) (fun _ _ _ h => h) (Or.inl ⟨?_, ?_⟩) (by assumption) ?_; rotate_left; (focus (first | rfl | (simp [Region.wanted, yielded]; done))); (focus (intro w hSw; (try dsimp only at hSw); go_simp; all_goals (with_reducible rfl))); try simp only [Act.put, List.getElem_toArray, List.getElem_cons_zero, List.getElem_cons_succ, List.setIfInBounds_toArray, List.set_cons_zero, List.set_cons_succ])
      (refine wpAnyH_take (i := 5) (oi := _) (v := ?_) rfl (by kernel_rfl) (by kernel_rfl) (by kernel_rfl) (fun _ _ _ h => h) (Or.inl ⟨?_, ?_⟩) (by assumption) ?_; rotate_left; (focus (first | rfl | (simp [Region.wanted, yielded]; done))); (focus (intro w hSw; (try dsimp only at hSw); go_simp; all_goals (with_reducible rfl))); try simp only [Act.put, List.getElem_toArray, List.getElem_cons_zero, List.getElem_cons_succ, List.setIfInBounds_toArray, List.set_cons_zero, List.set_cons_succ])
      (refine wpAnyH_take (i := 6) (oi := _) (v := ?_) rfl (by kernel_rfl) (by kernel_rfl) (by kernel_rfl) (fun _ _ _ h => h) (Or.inl ⟨?_, ?_⟩) (by assumption) ?_; rotate_left; (focus (first | rfl | (simp [Region.wanted, yielded]; done))); (focus (intro w hSw; (try dsimp only at hSw); go_simp; all_goals (with_reducible rfl))); try simp only [Act.put, List.getElem_toArray, List.getElem_cons_zero, List.getElem_cons_succ, List.setIfInBounds_toArray, List.set_cons_zero, List.set_cons_succ])
      (refine wpAnyH_take (i := 7) (oi := _) (v := ?_) rfl (by kernel_rfl) (by kernel_rfl) (by kernel_rfl) (fun _ _ _ h => h) (Or.inl ⟨?_, ?_⟩) (by assumption) ?_; rotate_left; (focus (first | rfl | (simp [Region.wanted, yielded]; done))); (focus (intro w hSw; (try dsimp only at hSw); go_simp; all_goals (with_reducible rfl))); try simp only [Act.put, List.getElem_toArray, List.getElem_cons_zero, List.getElem_cons_succ, List.setIfInBounds_toArray, List.set_cons_zero, List.set_cons_succ])
      (refine wpAnyH_take (i := 9) (oi := _) (v := ?_) rfl (by kernel_rfl) (by kernel_rfl) (by kernel_rfl) (fun _ _ _ h => h) (Or.inl ⟨?_, ?_⟩) (by assumption) ?_; rotate_left; (focus (first | rfl | (simp [Region.wanted, yielded]; done))); (focus (intro w hSw; (try dsimp only at hSw); go_simp; all_goals (with_reducible rfl))); try simp only [Act.put, List.getElem_toArray, List.getElem_cons_zero, List.getElem_cons_succ, List.setIfInBounds_toArray, List.set_cons_zero, List.set_cons_succ])
      (refine wpAnyH_take (i := 10) (oi := _) (v := ?_) rfl (by kernel_rfl) (by kernel_rfl) (by kernel_rfl) (fun _ _ _ h => h) (Or.inl ⟨?_, ?_⟩) (by assumption) ?_; rotate_left; (focus (first | rfl | (simp [Region.wanted, yielded]; done))); (focus (intro w hSw; (try dsimp only at hSw); go_simp; all_goals (with_reducible rfl))); try simp only [Act.put, List.getElem_toArray, List.getElem_cons_zero, List.getElem_cons_succ, List.setIfInBounds_toArray, List.set_cons_zero, List.set_cons_succ])
      (refine wpAnyH_take (i := 11) (oi := _) (v := ?_) rfl (by kernel_rfl) (by kernel_rfl) (by kernel_rfl) (fun _ _ _ h => h) (Or.inl ⟨?_, ?_⟩) (by assumption) ?_; rotate_left; (focus (first | rfl | (simp [Region.wanted, yielded]; done))); (focus (intro w hSw; (try dsimp only at hSw); go_simp; all_goals (with_reducible rfl))); try simp only [Act.put, List.getElem_toArray, List.getElem_cons_zero, List.getElem_cons_succ, List.setIfInBounds_toArray, List.set_cons_zero, List.set_cons_succ])
      (refine wpAnyH_ready (rs := [8]) (by kernel_rfl) (by simp) ?_; refine AllReadyH.cons (o := _) rfl (fun K hK => ?_) AllReadyH.nil; go_simp)
      refine (V1.out _ hHeld).1.mono ?_
      rintro e u1 ⟨rfl, hk1⟩
      have K1 := Lib.hid (Q.out.next _ _ hHeld hk1)
      (refine hK.out _ _ K1.out (fun hHeld2 => ?_); clear hK K hHeld; have hHeld := hHeld2; clear hHeld2; try simp only [Act.put, List.getElem_toArray, List.getElem_cons_zero, List.getElem_cons_succ, List.setIfInBounds_toArray, List.set_cons_zero, List.set_cons_succ])
      (refine wpAnyH_ready (rs := [12]) (by kernel_rfl) (by simp) ?_; refine AllReadyH.cons (o := _) rfl (fun K hK => ?_) AllReadyH.nil; go_simp)
      refine (V1.out _ hHeld).2.mono ?_
      rintro e u2 ⟨rfl, hk2⟩
      have K2 := Lib.hid (Q.out.next _ _ hHeld hk2)
      (refine hK.out _ _ K2.out (fun hHeld2 => ?_); clear hK K hHeld; have hHeld := hHeld2; clear hHeld2; try simp only [Act.put, List.getElem_toArray, List.getElem_cons_zero, List.getElem_cons_succ, List.setIfInBounds_toArray, List.set_cons_zero, List.set_cons_succ])
      (refine wpAnyH_take (i := 13) (oi := _) (v := ?_) rfl (by kernel_rfl) (by kernel_rfl) (by kernel_rfl) (fun _ _ _ h => h) (Or.inl ⟨?_, ?_⟩) (by assumption) ?_; rotate_left; (focus (first | rfl | (simp [Region.wanted, yielded]; done))); (focus (intro w hSw; (try dsimp only at hSw); go_simp; all_goals (with_reducible rfl))); try simp only [Act.put, List.getElem_toArray, List.getElem_cons_zero, List.getElem_cons_succ, List.setIfInBounds_toArray, List.set_cons_zero, List.set_cons_succ])
      (refine wpAnyH_take (i := 14) (oi := _) (v := ?_) rfl (by kernel_rfl) (by kernel_rfl) (by kernel_rfl) (fun _ _ _ h => h) (Or.inl ⟨?_, ?_⟩) (by assumption) ?_; rotate_left; (focus (first | rfl | (simp [Region.wanted, yielded]; done))); (focus (intro w hSw; (try dsimp only at hSw); go_simp; all_goals (with_reducible rfl))); try simp only [Act.put, List.getElem_toArray, List.getElem_cons_zero, List.getElem_cons_succ, List.setIfInBounds_toArray, List.set_cons_zero, List.set_cons_succ])
      (refine wpAnyH_take (i := 15) (oi := _) (v := ?_) rfl (by kernel_rfl) (by kernel_rfl) (by kernel_rfl) (fun _ _ _ h => h) (Or.inl ⟨?_, ?_⟩) (by assumption) ?_; rotate_left; (focus (first | rfl | (simp [Region.wanted, yielded]; done))); (focus (intro w hSw; (try dsimp only at hSw); go_simp; all_goals (with_reducible rfl))); try simp only [Act.put, List.getElem_toArray, List.getElem_cons_zero, List.getElem_cons_succ, List.setIfInBounds_toArray, List.set_cons_zero, List.set_cons_succ])
      (refine wpAnyH_take (i := 16) (oi := _) (v := ?_) rfl (by kernel_rfl) (by kernel_rfl) (by kernel_rfl) (fun _ _ _ h => h) (Or.inl ⟨?_, ?_⟩) (by assumption) ?_; rotate_left; (focus (first | rfl | (simp [Region.wanted, yielded]; done))); (focus (intro w hSw; (try dsimp only at hSw); go_simp; all_goals (with_reducible rfl))); try simp only [Act.put, List.getElem_toArray, List.getElem_cons_zero, List.getElem_cons_succ, List.setIfInBounds_toArray, List.set_cons_zero, List.set_cons_succ])
      (refine wpAnyH_take (i := 17) (oi := _) (v := ?_) rfl (by kernel_rfl) (by kernel_rfl) (by kernel_rfl) (fun _ _ _ h => h) (Or.inl ⟨?_, ?_⟩) (by assumption) ?_; rotate_left; (focus (first | rfl | (simp [Region.wanted, yielded]; done))); (focus (intro w hSw; (try dsimp only at hSw); go_simp; all_goals (with_reducible rfl))); try simp only [Act.put, List.getElem_toArray, List.getElem_cons_zero, List.getElem_cons_succ, List.setIfInBounds_toArray, List.set_cons_zero, List.set_cons_succ])
      (refine wpAnyH_take (i := 18) (oi := _) (v := ?_) rfl (by kernel_rfl) (by kernel_rfl) (by kernel_rfl) (fun _ _ _ h => h) (Or.inl ⟨?_, ?_⟩) (by assumption) ?_; rotate_left; (focus (first | rfl | (simp [Region.wanted, yielded]; done))); (focus (intro w hSw; (try dsimp only at hSw); go_simp; all_goals (with_reducible rfl))); try simp only [Act.put, List.getElem_toArray, List.getElem_cons_zero, List.getElem_cons_succ, List.setIfInBounds_toArray, List.set_cons_zero, List.set_cons_succ])
      (refine wpAnyH_take (i := 20) (oi := _) (v := ?_) rfl (by kernel_rfl) (by kernel_rfl) (by kernel_rfl) (fun _ _ _ h => h) (Or.inl ⟨?_, ?_⟩) (by assumption) ?_; rotate_left; (focus (first | rfl | (simp [Region.wanted, yielded]; done))); (focus (intro w hSw; (try dsimp only at hSw); go_simp; all_goals (with_reducible rfl))); try simp only [Act.put, List.getElem_toArray, List.getElem_cons_zero, List.getElem_cons_succ, List.setIfInBounds_toArray, List.set_cons_zero, List.set_cons_succ])
      (refine wpAnyH_take (i := 21) (oi := _) (v := ?_) rfl (by kernel_rfl) (by kernel_rfl) (by kernel_rfl) (fun _ _ _ h => h) (Or.inl ⟨?_, ?_⟩) (by assumption) ?_; rotate_left; (focus (first | rfl | (simp [Region.wanted, yielded]; done))); (focus (intro w hSw; (try dsimp only at hSw); go_simp; all_goals (with_reducible rfl))); try simp only [Act.put, List.getElem_toArray, List.getElem_cons_zero, List.getElem_cons_succ, List.setIfInBounds_toArray, List.set_cons_zero, List.set_cons_succ])
      (refine wpAnyH_take (i := 22) (oi := _) (v := ?_) rfl (by kernel_rfl) (by kernel_rfl) (by kernel_rfl) (fun _ _ _ h => h) (Or.inl ⟨?_, ?_⟩) (by assumption) ?_; rotate_left; (focus (first | rfl | (simp [Region.wanted, yielded]; done))); (focus (intro w hSw; (try dsimp only at hSw); go_simp; all_goals (with_reducible rfl))); try simp only [Act.put, List.getElem_toArray, List.getElem_cons_zero, List.getElem_cons_succ, List.setIfInBounds_toArray, List.set_cons_zero, List.set_cons_succ])
      (refine wpAnyH_ready (rs := [19]) (by kernel_rfl) (by simp) ?_; refine AllReadyH.cons (o := _) rfl (fun K hK => ?_) AllReadyH.nil; go_simp)
      refine (V2.out _ hHeld).1.mono ?_
      rintro e u3 ⟨rfl, hk3⟩
      have K3 := Lib.hid (Q.out.next _ _ hHeld hk3)
      (refine hK.out _ _ K3.out (fun hHeld2 => ?_); clear hK K hHeld; have hHeld := hHeld2; clear hHeld2; try simp only [Act.put, List.getElem_toArray, List.getElem_cons_zero, List.getElem_cons_succ, List.setIfInBounds_toArray, List.set_cons_zero, List.set_cons_succ])
      (refine wpAnyH_ready (rs := [23]) (by kernel_rfl) (by simp) ?_; refine AllReadyH.cons (o := _) rfl (fun K hK => ?_) AllReadyH.nil; go_simp)
      refine (V2.out _ hHeld).2.mono ?_
      rintro e u4 ⟨rfl, hk4⟩
      have K4 := Lib.hid (Q.out.next _ _ hHeld hk4)
      (refine hK.out _ _ K4.out (fun hHeld2 => ?_); clear hK K hHeld; have hHeld := hHeld2; clear hHeld2; try simp only [Act.put, List.getElem_toArray, List.getElem_cons_zero, List.getElem_cons_succ, List.setIfInBounds_toArray, List.set_cons_zero, List.set_cons_succ])
      (refine wpAnyH_take (i := 24) (oi := _) (v := ?_) rfl (by kernel_rfl) (by kernel_rfl) (by kernel_rfl) (fun _ _ _ h => h) (Or.inl ⟨?_, ?_⟩) (by assumption) ?_; rotate_left; (focus (first | rfl | (simp [Region.wanted, yielded]; done))); (focus (intro w hSw; (try dsimp only at hSw); go_simp; all_goals (with_reducible rfl))); try simp only [Act.put, List.getElem_toArray, List.getElem_cons_zero, List.getElem_cons_succ, List.setIfInBounds_toArray, List.set_cons_zero, List.set_cons_succ])
      (refine wpAnyH_take (i := 25) (oi := _) (v := ?_) rfl (by kernel_rfl) (by kernel_rfl) (by kernel_rfl) (fun _ _ _ h => h) (Or.inl ⟨?_, ?_⟩) (by assumption) ?_; rotate_left; (focus (first | rfl | (simp [Region.wanted, yielded]; done))); (focus (intro w hSw; (try dsimp only at hSw); go_simp; all_goals (with_reducible rfl))); try simp only [Act.put, List.getElem_toArray, List.getElem_cons_zero, List.getElem_cons_succ, List.setIfInBounds_toArray, List.set_cons_zero, List.set_cons_succ])
      (refine wpAnyH_take (i := 26) (oi := _) (v := ?_) rfl (by kernel_rfl) (by kernel_rfl) (by kernel_rfl) (fun _ _ _ h => h) (Or.inl ⟨?_, ?_⟩) (by assumption) ?_; rotate_left; (focus (first | rfl | (simp [Region.wanted, yielded]; done))); (focus (intro w hSw; (try dsimp only at hSw); go_simp; all_goals (with_reducible rfl))); try simp only [Act.put, List.getElem_toArray, List.getElem_cons_zero, List.getElem_cons_succ, List.setIfInBounds_toArray, List.set_cons_zero, List.set_cons_succ])
      (refine wpAnyH_done (by kernel_rfl) ?_ _; refine NoPanic.normal ?_)
      clear hHeld hk1 hk2 hk3 hk4
      go_wp2_with fail
      go_ret
      exact ⟨rfl, Q.out.bel _ K4.out⟩
end Go.Proofs.YthceonkdmcidcaaDoor
