/- WALK: SealForm. -/
import Derived.Test.YthceonkdmcidcaaDoorUD
import Derived.Test.YthceonkdmcidcaaDoorSY
import Derived.Deep.DeepCutAuto
set_option linter.unusedSimpArgs false
set_option linter.unusedVariables false
namespace Go.Proofs.YthceonkdmcidcaaDoor
open Go.RowKit

/-- a seal that came in lies in a block of its own; what is kept by all that comes behind -/
structure SealIn (w W0 : World) (B : Nat) (idx : Int) (A1 A2 : Option Addr) (n1 c1 n2 c2 : Nat) (S P : List (List UInt8)) : Prop where
  tab : ∀ u, Below (B + 1) W0 u → Tab u
  r1 : ∀ u, Below (B + 1) W0 u → Rd u A1 (sv S)
  r2 : ∀ u, Below (B + 1) W0 u → Rd u A2 (sv P)
  bel : ∀ u, Below (B + 1) W0 u → Below w.heap.size w u
  blk : ∀ u, Below (B + 1) W0 u → u.heap[B]? = some (.cells #[.int .i64 idx, .slice A1 n1 c1, .slice A2 n2 c2] 24 (0, 0))
  sz : ∀ u, Below (B + 1) W0 u → B + 1 ≤ u.heap.size
  next : ∀ u v, Below (B + 1) W0 u → Below u.heap.size u v → Below (B + 1) W0 v
theorem sealIn_mk {w W0 : World} {B : Nat} {idx : Int} {A1 A2 : Option Addr} {n1 c1 n2 c2 : Nat} {S P : List (List UInt8)} (hB : w.heap.size = B) (hW : W0 = w.alloc (.cells #[.int .i64 idx, .slice A1 n1 c1, .slice A2 n2 c2] 24)) (ht : Tab w) (r1 : Rd w A1 (sv S)) (r2 : Rd w A2 (sv P)) :
    SealIn w W0 B idx A1 A2 n1 c1 n2 c2 S P := by
  subst hB hW
  have b0 : Below w.heap.size w (w.alloc (.cells #[.int .i64 idx, .slice A1 n1 c1, .slice A2 n2 c2] 24)) := (Below.refl _ _).alloc (Nat.le_refl _) _
  have k : ∀ u, Below (w.heap.size + 1) (w.alloc (.cells #[.int .i64 idx, .slice A1 n1 c1, .slice A2 n2 c2] 24)) u → Below w.heap.size w u := fun u h => b0.trans (h.mono (Nat.le_succ _))
  have z : ∀ u, Below (w.heap.size + 1) (w.alloc (.cells #[.int .i64 idx, .slice A1 n1 c1, .slice A2 n2 c2] 24)) u → w.heap.size + 1 ≤ u.heap.size := fun u h => by have := h.size; simpa using this
  exact ⟨fun u h => ht.keep (k u h), fun u h => r1.below (k u h), fun u h => r2.below (k u h), k, fun u h => (h.block _ (Nat.lt_succ_self _)).trans (heap_alloc_new w _), z, fun u v h g => h.trans (g.mono (z u h))⟩
theorem climb_isD : ∀ (p : List (List UInt8)) (i : Nat) (a : List UInt8), Dg.isD a = true → Dg.isD (Sl.climb p i a) = true
  | [], _, _, h => h
  | _ :: p, i, _, _ => climb_isD p (i / 2) _ (Dg.sumL_isD _)
theorem even_all {S : List (List UInt8)} (h : oddL S = false) : ∀ t ∈ S, Dg.isD t = true := by
  intro t ht
  unfold oddL at h
  rw [List.any_eq_false] at h
  simpa using h t ht
theorem ver_facts {pub m : List UInt8} {idx : Int} {S P : List (List UInt8)} (h : verB pub m idx S P = true) :
    S.length = 18 ∧ P.length ≤ 8 ∧ (∀ t ∈ S, Dg.isD t = true) ∧ (∀ t ∈ P, Dg.isD t = true) ∧ 0 ≤ idx ∧ idx < ((2 ^ P.length : Nat) : Int) ∧ Dg.isD pub = true ∧ Sl.verF m idx.toNat S P = pub := by
  unfold verB preB at h
  simp only [Bool.and_eq_true, decide_eq_true_eq, Bool.not_eq_true'] at h
  obtain ⟨⟨⟨⟨⟨⟨h1, h2⟩, h3⟩, h4⟩, h5⟩, h6⟩, h7⟩ := h
  refine ⟨h1, h2, even_all h3, even_all h4, h5, h6, ?_, h7⟩
  rw [← h7]
  exact climb_isD _ _ _ (Dg.sumL_isD _)
theorem ver_idx {pub m : List UInt8} {idx : Int} {S P : List (List UInt8)} (h : idx < 0 ∨ ((2 ^ P.length : Nat) : Int) ≤ idx) : verB pub m idx S P = false := ver_false (by
  unfold preB
  rcases h with h | h
  · rw [show decide (0 ≤ idx) = false from decide_eq_false (by omega)]; simp
  · rw [show decide (idx < ((2 ^ P.length : Nat) : Int)) = false from decide_eq_false (by omega)]; simp)
theorem len_100 {S : List (List UInt8)} (h : ∀ t ∈ S, t.length ≤ 100) : ∀ t ∈ S, t.length ≤ 300 := fun t ht => Nat.le_trans (h t ht) (by decide)
set_option maxRecDepth 100000 in
set_option maxHeartbeats 8000000 in
theorem walk_SealForm (pub m : ByteArray) (idx : Int) (A1 A2 : Option Addr) (c1 c2 : Nat) (S P : List (List UInt8)) (w : World) (hp0 : pub.size ≤ 9223372036854775807) (hm0 : m.size ≤ 9223372036854775807)
    (hS : S.length ≤ c1) (hc1 : c1 ≤ 8796093022208) (hP : P.length ≤ c2) (hc2 : c2 ≤ 8796093022208) (r1 : Rd w A1 (sv S)) (r2 : Rd w A2 (sv P)) (ht : Tab w) :
    Calls Tryd.prog 9 #[.string pub, .string m, .agg #[.int .i64 idx, .slice A1 S.length c1, .slice A2 P.length c2]] w fun e w' => e = .returned (.bool true) ∧ Below w.heap.size w w' := by
  obtain ⟨B, hB⟩ : ∃ B, w.heap.size = B := ⟨_, rfl⟩
  obtain ⟨n1, hn1⟩ : ∃ n, S.length = n := ⟨_, rfl⟩
  obtain ⟨n2, hn2⟩ : ∃ n, P.length = n := ⟨_, rfl⟩
  have N1 := Lib.hid hn1; have N2 := Lib.hid hn2
  rw [hn1, hn2]
  rw [hn1] at hS; rw [hn2] at hP
  obtain ⟨W0, hW0⟩ : ∃ W0, W0 = w.alloc (.cells #[.int .i64 idx, .slice A1 n1 c1, .slice A2 n2 c2] 24) := ⟨_, rfl⟩
  have Q := Lib.hid (sealIn_mk (idx := idx) (A1 := A1) (A2 := A2) (n1 := n1) (c1 := c1) (n2 := n2) (c2 := c2) hB hW0 ht r1 r2)
  have HD := Lib.hid (shead_any W0 (Q.out.tab W0 (Below.refl _ _)))
  have hS2 : S.length ≤ 8796093022208 := by omega
  have hP2 : P.length ≤ 8796093022208 := by omega
  have FA : Hid (∀ u, Below (B + 1) W0 u → Calls Tryd.prog 12 #[.agg #[.int .i64 idx, .slice A1 n1 c1, .slice A2 n2 c2]] u fun e w' => SomeBool (Few2Said S P) e ∧ Below u.heap.size u w') := Lib.hid (fun u hu => by
    rw [← hn1, ← hn2]; exact few2_any idx A1 A2 c1 c2 S P u hS2 hP2 (Q.out.r1 u hu) (Q.out.r2 u hu))
  clear hn1 hn2 r1 r2 hS2 hP2
  go_enter Tryd.func9, Tryd.ntmps9
  go_wp2_with fail
  rw [← hW0]
  clear hW0 hB
  refine HD.out.mono ?_
  rintro e w1 ⟨rfl, hb1⟩
  have B1 := Lib.hid (Q.out.next _ _ (Below.refl _ _) hb1); clear hb1 HD
  have B1a : Hid (Below (B + 1) W0 (w1.alloc (.cells #[.string pub, .string m] 9))) := Lib.hid (B1.out.alloc (Q.out.sz _ B1.out) _)
  go_wp2_with fail
  refine (short2_any pub m w1).mono ?_
  rintro e w1' ⟨⟨b, rfl, hfew⟩, rfl⟩
  have FW := Lib.hid hfew; clear hfew
  cases b with
  | false =>
    go_wp2_with fail
    go_ret
    exact ⟨rfl, Q.out.bel _ B1a.out⟩
  | true =>
    have hp : pub.size ≤ 300 := FW.out rfl pub (by simp)
    have hm : m.size ≤ 300 := FW.out rfl m (by simp)
    obtain ⟨w2, hw2⟩ : ∃ W, W = w1.alloc (.cells #[.string pub, .string m] 9) := ⟨_, rfl⟩
    rw [← hw2] at B1a ⊢
    clear FW hw2 B1
    obtain ⟨x0, x1, x2⟩ := cells3 (Q.out.blk _ B1a.out)
    go_wp2_with fail
    refine (FA.out _ B1a.out).mono ?_
    rintro e w3 ⟨⟨b, rfl, hf⟩, hb3⟩
    have B3 := Lib.hid (Q.out.next _ _ B1a.out hb3); clear hb3 x0 x1 x2 B1a
    have FW := Lib.hid hf; clear hf
    cases b with
    | false =>
      go_wp2_with fail
      go_ret
      exact ⟨rfl, Q.out.bel _ B3.out⟩
    | true =>
      obtain ⟨⟨l1, s1⟩, ⟨l2, s2⟩⟩ := FW.out rfl
      have S1 := Lib.hid (len_100 s1); have S2 := Lib.hid (len_100 s2)
      have l1' : S.length ≤ 1000 := by omega
      have l2' : P.length ≤ 1000 := by omega
      clear FW s1 s2 FA
      have VA : Hid (∀ u, Below (B + 1) W0 u → Calls Tryd.prog 18 #[.string pub, .string m, .agg #[.int .i64 idx, .slice A1 n1 c1, .slice A2 n2 c2]] u fun e w' => e = .returned (.bool (verB pub.data.toList m.data.toList idx S P)) ∧ Below u.heap.size u w') := Lib.hid (fun u hu => by
        rw [← N1.out, ← N2.out]
        exact verify_any pub m idx A1 A2 c1 c2 S P u (by omega) ⟨Q.out.r1 u hu, l1', S1.out⟩ ⟨Q.out.r2 u hu, l2', S2.out⟩ (Q.out.tab u hu))
      obtain ⟨x0, x1, x2⟩ := cells3 (Q.out.blk _ B3.out)
      obtain ⟨v, hv⟩ : ∃ v, verB pub.data.toList m.data.toList idx S P = v := ⟨_, rfl⟩
      rw [hv] at VA
      have HV := Lib.hid hv; clear hv
      go_wp2_with fail
      refine (VA.out _ B3.out).mono ?_
      rintro e w4 ⟨rfl, hb4⟩
      have B4 := Lib.hid (Q.out.next _ _ B3.out hb4); clear hb4 x0 x1 x2 B3
      cases v with
      | false =>
        go_wp2_with fail
        go_ret
        exact ⟨rfl, Q.out.bel _ B4.out⟩
      | true =>
        obtain ⟨f1, f2, f3, f4, f5, f6, f7, -⟩ := ver_facts HV.out
        have D1 := Lib.hid f3; have D2 := Lib.hid f4; have DP := Lib.hid f7
        have VL : Hid (verB pub.data.toList m.data.toList idx (S.take 17) P = false) := Lib.hid (ver_false (by
          unfold preB
          rw [show (S.take 17).length = 17 by rw [List.length_take, f1]; rfl]
          simp))
        rw [N1.out] at f1; rw [N2.out] at f2 f6
        have VG : Hid (∀ i : Int, (i < 0 ∨ ((2 ^ n2 : Nat) : Int) ≤ i) → verB pub.data.toList m.data.toList i S P = false) := Lib.hid (fun i h => ver_idx (by rw [N2.out]; exact h))
        subst f1
        obtain ⟨j, rfl⟩ : ∃ j : Nat, idx = j := ⟨idx.toNat, by omega⟩
        have P8 := pow_le8 f2
        have PW : Hid (wrap64 (2 ^ n2) = ((2 ^ n2 : Nat) : Int) ∧ IntKind.i64.wrap (2 ^ n2) = ((2 ^ n2 : Nat) : Int)) := Lib.hid ⟨wrap_pow f2, wrap_pow2 f2⟩
        generalize 2 ^ n2 = q at *
        have F2 := Lib.hid f2
        have hjq : j < q := by omega
        have e2 : decide ((8 : Int) < (n2 : Int)) = false := by simp; omega
        have e5 : decide ((j : Int) < 0) = false := by simp
        have e6 : decide ((q : Int) ≤ (j : Int)) = false := by simp; omega
        have e7 : decide (q ≤ j) = false := by simp; omega
        have i0 : (0 : Int) ≤ (n2 : Int) := by omega
        have i1 : (n2 : Int) < 64 := by omega
        have IP : Hid (∀ u, Calls Tryd.prog 20 #[.string pub] u fun e w' => e = .returned (.bool true) ∧ Below u.heap.size u w') := Lib.hid (fun u => by
          have := is_any pub u hp0
          rwa [DP.out] at this)
        have I1 : Hid (∀ k, k < 18 → ∀ u, Calls Tryd.prog 20 #[.string (mkB (S.getD k []))] u fun e w' => e = .returned (.bool true) ∧ Below u.heap.size u w') := Lib.hid (fun k hk u => by
          have hks : k < S.length := by rw [N1.out]; exact hk
          have hd : Dg.isD (S.getD k []) = true := by rw [List.getD_eq_getElem?_getD, List.getElem?_eq_getElem hks]; exact D1.out _ (List.getElem_mem hks)
          have := is_any (mkB (S.getD k [])) u (by rw [mkB_size, isD_len hd]; decide)
          rwa [mkB_list, hd] at this)
        have I2 : Hid (∀ k, k < n2 → ∀ u, Calls Tryd.prog 20 #[.string (mkB (P.getD k []))] u fun e w' => e = .returned (.bool true) ∧ Below u.heap.size u w') := Lib.hid (fun k hk u => by
          have hks : k < P.length := by rw [N2.out]; exact hk
          have hd : Dg.isD (P.getD k []) = true := by rw [List.getD_eq_getElem?_getD, List.getElem?_eq_getElem hks]; exact D2.out _ (List.getElem_mem hks)
          have := is_any (mkB (P.getD k [])) u (by rw [mkB_size, isD_len hd]; decide)
          rwa [mkB_list, hd] at this)
        have C0 : ∀ w', Below (B + 1) W0 w' → w'.cell? ⟨B, 0, none⟩ = some (.int .i64 (j : Int)) := fun w' h => (cells3 (Q.out.blk _ h)).1
        have C1 : ∀ w', Below (B + 1) W0 w' → w'.cell? ⟨B, 1, none⟩ = some (.slice A1 18 c1) := fun w' h => (cells3 (Q.out.blk _ h)).2.1
        have C2 : ∀ w', Below (B + 1) W0 w' → w'.cell? ⟨B, 2, none⟩ = some (.slice A2 n2 c2) := fun w' h => (cells3 (Q.out.blk _ h)).2.2
        clear VA f3 f4 f5 f6 f7 f2 HV l1 l2
        obtain ⟨PW1, PW2⟩ := PW.out
        go_wp2_with fail
        (refine wp_region_noPanic ?_; refine wp_region_held_drew (S := (fun w' => Below (B + 1) W0 w')) (by kernel_rfl) ?_ (fun hHeld => ?_); exact (B4.out.drew))
        (refine wpAnyH_take (i := 0) (oi := _) (v := ?_) rfl (by kernel_rfl) (by kernel_rfl) (by kernel_rfl) (fun _ _ _ h => h) (Or.inl ⟨?_, ?_⟩) (by assumption) ?_; rotate_left; (focus (first | rfl | (simp [Region.wanted, yielded]; done))); (focus (intro w hSw; (try dsimp only at hSw); go_simp; all_goals (with_reducible rfl))); try simp only [Act.put, List.getElem_toArray, List.getElem_cons_zero, List.getElem_cons_succ, List.setIfInBounds_toArray, List.set_cons_zero, List.set_cons_succ])
        (refine wpAnyH_take (i := 1) (oi := _) (v := ?_) rfl (by kernel_rfl) (by kernel_rfl) (by kernel_rfl) (fun _ _ _ h => h) (Or.inl ⟨?_, ?_⟩) (by assumption) ?_; rotate_left; (focus (first | rfl | (simp [Region.wanted, yielded]; done))); (focus (intro w hSw; (try dsimp only at hSw); go_simp; all_goals (with_reducible rfl))); try simp only [Act.put, List.getElem_toArray, List.getElem_cons_zero, List.getElem_cons_succ, List.setIfInBounds_toArray, List.set_cons_zero, List.set_cons_succ])
        (refine wpAnyH_take (i := 2) (oi := _) (v := ?_) rfl (by kernel_rfl) (by kernel_rfl) (by kernel_rfl) (fun _ _ _ h => h) (Or.inl ⟨?_, ?_⟩) (by assumption) ?_; rotate_left; (focus (first | rfl | (simp [Region.wanted, yielded]; done))); (focus (intro w hSw; (try dsimp only at hSw); go_simp; all_goals (with_reducible rfl))); try simp only [Act.put, List.getElem_toArray, List.getElem_cons_zero, List.getElem_cons_succ, List.setIfInBounds_toArray, List.set_cons_zero, List.set_cons_succ])
        (refine wpAnyH_take (i := 3) (oi := _) (v := ?_) rfl (by kernel_rfl) (by kernel_rfl) (by kernel_rfl) (fun _ _ _ h => h) (Or.inl ⟨?_, ?_⟩) (by assumption) ?_; rotate_left; (focus (first | rfl | (simp [Region.wanted, yielded]; done))); (focus (intro w hSw; (try dsimp only at hSw); go_simp; all_goals (with_reducible rfl))); try simp only [Act.put, List.getElem_toArray, List.getElem_cons_zero, List.getElem_cons_succ, List.setIfInBounds_toArray, List.set_cons_zero, List.set_cons_succ])
        (refine wpAnyH_take (i := 4) (oi := _) (v := ?_) rfl (by kernel_rfl) (by kernel_rfl) (by kernel_rfl) (fun _ _ _ h => h) (Or.inl ⟨?_, ?_⟩) (by assumption) ?_; rotate_left; (focus (first | rfl | (simp [Region.wanted, yielded]; done))); (focus (intro w hSw; (try dsimp only at hSw); go_simp; all_goals (with_reducible rfl))); try simp only [Act.put, List.getElem_toArray, List.getElem_cons_zero, List.getElem_cons_succ, List.setIfInBounds_toArray, List.set_cons_zero, List.set_cons_succ])
        (refine wpAnyH_take (i := 5) (oi := _) (v := ?_) rfl (by kernel_rfl) (by kernel_rfl) (by kernel_rfl) (fun _ _ _ h => h) (Or.inl ⟨?_, ?_⟩) (by assumption) ?_; rotate_left; (focus (first | rfl | (simp [Region.wanted, yielded]; done))); (focus (intro w hSw; (try dsimp only at hSw); go_simp; all_goals (with_reducible rfl))); try simp only [Act.put, List.getElem_toArray, List.getElem_cons_zero, List.getElem_cons_succ, List.setIfInBounds_toArray, List.set_cons_zero, List.set_cons_succ])
        (refine wpAnyH_take (i := 6) (oi := _) (v := ?_) rfl (by kernel_rfl) (by kernel_rfl) (by kernel_rfl) (fun _ _ _ h => h) (Or.inl ⟨?_, ?_⟩) (by assumption) ?_; rotate_left; (focus (first | rfl | (simp [Region.wanted, yielded]; done))); (focus (intro w hSw; (try dsimp only at hSw); go_simp; all_goals (with_reducible rfl))); try simp only [Act.put, List.getElem_toArray, List.getElem_cons_zero, List.getElem_cons_succ, List.setIfInBounds_toArray, List.set_cons_zero, List.set_cons_succ])
        (refine wpAnyH_take (i := 7) (oi := _) (v := ?_) rfl (by kernel_rfl) (by kernel_rfl) (by kernel_rfl) (fun _ _ _ h => h) (Or.inl ⟨?_, ?_⟩) (by assumption) ?_; rotate_left; (focus (first | rfl | (simp [Region.wanted, yielded]; done))); (focus (intro w hSw; (try dsimp only at hSw); go_simp; all_goals (with_reducible rfl))); try simp only [Act.put, List.getElem_toArray, List.getElem_cons_zero, List.getElem_cons_succ, List.setIfInBounds_toArray, List.set_cons_zero, List.set_cons_succ])
        (refine wpAnyH_take (i := 8) (oi := _) (v := ?_) rfl (by kernel_rfl) (by kernel_rfl) (by kernel_rfl) (fun _ _ _ h => h) (Or.inl ⟨?_, ?_⟩) (by assumption) ?_; rotate_left; (focus (first | rfl | (simp [Region.wanted, yielded]; done))); (focus (intro w hSw; (try dsimp only at hSw); go_simp; all_goals (with_reducible rfl))); try simp only [Act.put, List.getElem_toArray, List.getElem_cons_zero, List.getElem_cons_succ, List.setIfInBounds_toArray, List.set_cons_zero, List.set_cons_succ])
        (refine wpAnyH_take (i := 9) (oi := _) (v := ?_) rfl (by kernel_rfl) (by kernel_rfl) (by kernel_rfl) (fun _ _ _ h => h) (Or.inl ⟨?_, ?_⟩) (by assumption) ?_; rotate_left; (focus (first | rfl | (simp [Region.wanted, yielded]; done))); (focus (intro w hSw; (try dsimp only at hSw); go_simp; all_goals (with_reducible rfl))); try simp only [Act.put, List.getElem_toArray, List.getElem_cons_zero, List.getElem_cons_succ, List.setIfInBounds_toArray, List.set_cons_zero, List.set_cons_succ])
        (refine wpAnyH_take (i := 10) (oi := _) (v := ?_) rfl (by kernel_rfl) (by kernel_rfl) (by kernel_rfl) (fun _ _ _ h => h) (Or.inl ⟨?_, ?_⟩) (by assumption) ?_; rotate_left; (focus (first | rfl | (simp [Region.wanted, yielded]; done))); (focus (intro w hSw; (try dsimp only at hSw); go_simp; all_goals (with_reducible rfl))); try simp only [Act.put, List.getElem_toArray, List.getElem_cons_zero, List.getElem_cons_succ, List.setIfInBounds_toArray, List.set_cons_zero, List.set_cons_succ])
        (refine wpAnyH_take (i := 11) (oi := _) (v := ?_) rfl (by kernel_rfl) (by kernel_rfl) (by kernel_rfl) (fun _ _ _ h => h) (Or.inl ⟨?_, ?_⟩) (by assumption) ?_; rotate_left; (focus (first | rfl | (simp [Region.wanted, yielded]; done))); (focus (intro w hSw; (try dsimp only at hSw); go_simp; all_goals (with_reducible rfl))); try simp only [Act.put, List.getElem_toArray, List.getElem_cons_zero, List.getElem_cons_succ, List.setIfInBounds_toArray, List.set_cons_zero, List.set_cons_succ])
        (refine wpAnyH_take (i := 12) (oi := _) (v := ?_) rfl (by kernel_rfl) (by kernel_rfl) (by kernel_rfl) (fun _ _ _ h => h) (Or.inl ⟨?_, ?_⟩) (by assumption) ?_; rotate_left; (focus (first | rfl | (simp [Region.wanted, yielded]; done))); (focus (intro w hSw; (try dsimp only at hSw); go_simp; all_goals (with_reducible rfl))); try simp only [Act.put, List.getElem_toArray, List.getElem_cons_zero, List.getElem_cons_succ, List.setIfInBounds_toArray, List.set_cons_zero, List.set_cons_succ])
        (refine wpAnyH_take (i := 13) (oi := _) (v := ?_) rfl (by kernel_rfl) (by kernel_rfl) (by kernel_rfl) (fun _ _ _ h => h) (Or.inl ⟨?_, ?_⟩) (by assumption) ?_; rotate_left; (focus (first | rfl | (simp [Region.wanted, yielded]; done))); (focus (intro w hSw; (try dsimp only at hSw); go_simp; all_goals (with_reducible rfl))); try simp only [Act.put, List.getElem_toArray, List.getElem_cons_zero, List.getElem_cons_succ, List.setIfInBounds_toArray, List.set_cons_zero, List.set_cons_succ])
        (refine wpAnyH_take (i := 14) (oi := _) (v := ?_) rfl (by kernel_rfl) (by kernel_rfl) (by kernel_rfl) (fun _ _ _ h => h) (Or.inl ⟨?_, ?_⟩) (by assumption) ?_; rotate_left; (focus (first | rfl | (simp [Region.wanted, yielded]; done))); (focus (intro w hSw; (try dsimp only at hSw); go_simp; all_goals (with_reducible rfl))); try simp only [Act.put, List.getElem_toArray, List.getElem_cons_zero, List.getElem_cons_succ, List.setIfInBounds_toArray, List.set_cons_zero, List.set_cons_succ])
        (refine wpAnyH_take (i := 15) (oi := _) (v := ?_) rfl (by kernel_rfl) (by kernel_rfl) (by kernel_rfl) (fun _ _ _ h => h) (Or.inl ⟨?_, ?_⟩) (by assumption) ?_; rotate_left; (focus (first | rfl | (simp [Region.wanted, yielded]; done))); (focus (intro w hSw; (try dsimp only at hSw); go_simp; all_goals (with_reducible rfl))); try simp only [Act.put, List.getElem_toArray, List.getElem_cons_zero, List.getElem_cons_succ, List.setIfInBounds_toArray, List.set_cons_zero, List.set_cons_succ])
        (refine wpAnyH_take (i := 16) (oi := _) (v := ?_) rfl (by kernel_rfl) (by kernel_rfl) (by kernel_rfl) (fun _ _ _ h => h) (Or.inl ⟨?_, ?_⟩) (by assumption) ?_; rotate_left; (focus (first | rfl | (simp [Region.wanted, yielded]; done))); (focus (intro w hSw; (try dsimp only at hSw); go_simp; all_goals (with_reducible rfl))); try simp only [Act.put, List.getElem_toArray, List.getElem_cons_zero, List.getElem_cons_succ, List.setIfInBounds_toArray, List.set_cons_zero, List.set_cons_succ])
        (refine wpAnyH_take (i := 17) (oi := _) (v := ?_) rfl (by kernel_rfl) (by kernel_rfl) (by kernel_rfl) (fun _ _ _ h => h) (Or.inl ⟨?_, ?_⟩) (by assumption) ?_; rotate_left; (focus (first | rfl | (simp [Region.wanted, yielded]; done))); (focus (intro w hSw; (try dsimp only at hSw); go_simp; all_goals (with_reducible rfl))); try simp only [Act.put, List.getElem_toArray, List.getElem_cons_zero, List.getElem_cons_succ, List.setIfInBounds_toArray, List.set_cons_zero, List.set_cons_succ])
        (refine wpAnyH_take (i := 18) (oi := _) (v := ?_) rfl (by kernel_rfl) (by kernel_rfl) (by kernel_rfl) (fun _ _ _ h => h) (Or.inl ⟨?_, ?_⟩) (by assumption) ?_; rotate_left; (focus (first | rfl | (simp [Region.wanted, yielded]; done))); (focus (intro w hSw; (try dsimp only at hSw); go_simp; all_goals (with_reducible rfl))); try simp only [Act.put, List.getElem_toArray, List.getElem_cons_zero, List.getElem_cons_succ, List.setIfInBounds_toArray, List.set_cons_zero, List.set_cons_succ])
        (refine wpAnyH_take (i := 19) (oi := _) (v := ?_) rfl (by kernel_rfl) (by kernel_rfl) (by kernel_rfl) (fun _ _ _ h => h) (Or.inl ⟨?_, ?_⟩) (by assumption) ?_; rotate_left; (focus (first | rfl | (simp [Region.wanted, yielded]; done))); (focus (intro w hSw; (try dsimp only at hSw); go_simp; all_goals (with_reducible rfl))); try simp only [Act.put, List.getElem_toArray, List.getElem_cons_zero, List.getElem_cons_succ, List.setIfInBounds_toArray, List.set_cons_zero, List.set_cons_succ])
        (refine wpAnyH_take (i := 20) (oi := _) (v := ?_) rfl (by kernel_rfl) (by kernel_rfl) (by kernel_rfl) (fun _ _ _ h => h) (Or.inl ⟨?_, ?_⟩) (by assumption) ?_; rotate_left; (focus (first | rfl | (simp [Region.wanted, yielded]; done))); (focus (intro w hSw; (try dsimp only at hSw); go_simp; all_goals (with_reducible rfl))); try simp only [Act.put, List.getElem_toArray, List.getElem_cons_zero, List.getElem_cons_succ, List.setIfInBounds_toArray, List.set_cons_zero, List.set_cons_succ])
        (refine wpAnyH_take (i := 21) (oi := _) (v := ?_) rfl (by kernel_rfl) (by kernel_rfl) (by kernel_rfl) (fun _ _ _ h => h) (Or.inl ⟨?_, ?_⟩) (by assumption) ?_; rotate_left; (focus (first | rfl | (simp [Region.wanted, yielded]; done))); (focus (intro w hSw; (try dsimp only at hSw); go_simp; all_goals (with_reducible rfl))); try simp only [Act.put, List.getElem_toArray, List.getElem_cons_zero, List.getElem_cons_succ, List.setIfInBounds_toArray, List.set_cons_zero, List.set_cons_succ])
        (refine wpAnyH_take (i := 22) (oi := _) (v := ?_) rfl (by kernel_rfl) (by kernel_rfl) (by kernel_rfl) (fun _ _ _ h => h) (Or.inl ⟨?_, ?_⟩) (by assumption) ?_; rotate_left; (focus (first | rfl | (simp [Region.wanted, yielded]; done))); (focus (intro w hSw; (try dsimp only at hSw); go_simp; all_goals (with_reducible rfl))); try simp only [Act.put, List.getElem_toArray, List.getElem_cons_zero, List.getElem_cons_succ, List.setIfInBounds_toArray, List.set_cons_zero, List.set_cons_succ])
        (refine wpAnyH_take (i := 23) (oi := _) (v := ?_) rfl (by kernel_rfl) (by kernel_rfl) (by kernel_rfl) (fun _ _ _ h => h) (Or.inl ⟨?_, ?_⟩) (by assumption) ?_; rotate_left; (focus (first | rfl | (simp [Region.wanted, yielded]; done))); (focus (intro w hSw; (try dsimp only at hSw); go_simp; all_goals (with_reducible rfl))); try simp only [Act.put, List.getElem_toArray, List.getElem_cons_zero, List.getElem_cons_succ, List.setIfInBounds_toArray, List.set_cons_zero, List.set_cons_succ])
        (refine wpAnyH_take (i := 24) (oi := _) (v := ?_) rfl (by kernel_rfl) (by kernel_rfl) (by kernel_rfl) (fun _ _ _ h => h) (Or.inl ⟨?_, ?_⟩) (by assumption) ?_; rotate_left; (focus (first | rfl | (simp [Region.wanted, yielded]; done))); (focus (intro w hSw; (try dsimp only at hSw); go_simp; all_goals (with_reducible rfl))); try simp only [Act.put, List.getElem_toArray, List.getElem_cons_zero, List.getElem_cons_succ, List.setIfInBounds_toArray, List.set_cons_zero, List.set_cons_succ])
        (refine wpAnyH_take (i := 25) (oi := _) (v := ?_) rfl (by kernel_rfl) (by kernel_rfl) (by kernel_rfl) (fun _ _ _ h => h) (Or.inl ⟨?_, ?_⟩) (by assumption) ?_; rotate_left; (focus (first | rfl | (simp [Region.wanted, yielded]; done))); (focus (intro w hSw; (try dsimp only at hSw); go_simp; all_goals (with_reducible rfl))); try simp only [Act.put, List.getElem_toArray, List.getElem_cons_zero, List.getElem_cons_succ, List.setIfInBounds_toArray, List.set_cons_zero, List.set_cons_succ])
        (refine wpAnyH_ready (rs := [26]) (by kernel_rfl) (by simp) ?_; refine AllReadyH.cons (o := _) rfl (fun K hK => ?_) AllReadyH.nil; go_simp)
        refine (IP.out _).mono ?_
        rintro e w5 ⟨rfl, hb5⟩
        have B5 := Lib.hid (Q.out.next _ _ hHeld hb5); clear hb5
        (refine hK.out _ _ B5.out (fun hHeld2 => ?_); clear hK K hHeld; have hHeld := hHeld2; clear hHeld2; try simp only [Act.put, List.getElem_toArray, List.getElem_cons_zero, List.getElem_cons_succ, List.setIfInBounds_toArray, List.set_cons_zero, List.set_cons_succ])
        (refine wpAnyH_take (i := 27) (oi := _) (v := ?_) rfl (by kernel_rfl) (by kernel_rfl) (by kernel_rfl) (fun _ _ _ h => h) (Or.inl ⟨?_, ?_⟩) (by assumption) ?_; rotate_left; (focus (first | rfl | (simp [Region.wanted, yielded]; done))); (focus (intro w hSw; (try dsimp only at hSw); go_simp; all_goals (with_reducible rfl))); try simp only [Act.put, List.getElem_toArray, List.getElem_cons_zero, List.getElem_cons_succ, List.setIfInBounds_toArray, List.set_cons_zero, List.set_cons_succ])
        (refine wpAnyH_take (i := 28) (oi := _) (v := ?_) rfl (by kernel_rfl) (by kernel_rfl) (by kernel_rfl) (fun _ _ _ h => h) (Or.inl ⟨?_, ?_⟩) (by assumption) ?_; rotate_left; (focus (first | rfl | (simp [Region.wanted, yielded]; done))); (focus (intro w hSw; (try dsimp only at hSw); go_simp; all_goals (with_reducible rfl))); try simp only [Act.put, List.getElem_toArray, List.getElem_cons_zero, List.getElem_cons_succ, List.setIfInBounds_toArray, List.set_cons_zero, List.set_cons_succ])
        (refine wpAnyH_done (by kernel_rfl) ?_ _; refine NoPanic.normal ?_)
        clear hHeld B4 e2 e5 e6 e7 PW1 PW2 C0 C1 C2
        go_wp2_with fail
        go_loopw [8] (fun i' wr => ∃ k : Nat, k ≤ 18 ∧ i' = .int .i64 k ∧ Hid (Below (B + 1) W0 wr)) (fun i' _ => 18 - (intOf i').toNat)
        case atStart => exact ⟨0, by omega, rfl, B5⟩
        case round =>
          clear B5
          obtain ⟨k, hk, rfl, hbl⟩ := hrel
          have x1 := (cells3 (Q.out.blk _ hbl.out)).2.1
          by_cases hlt : k < 18
          · obtain ⟨b, off, rfl, hb, hcell⟩ := (Q.out.r1 _ hbl.out) (by rw [sv_len, N1.out]; decide)
            have hc := hcell k _ (getD_at (by rw [N1.out]; exact hlt))
            have IA := Lib.hid (I1.out k hlt)
            clear hcell
            generalize S.getD k [] = y at *
            have d1 : (k : Int) < 18 := by omega
            go_wp2_with fail
            refine (IA.out _).mono ?_
            rintro e w8 ⟨rfl, hb8⟩
            have B8 := Lib.hid (Q.out.next _ _ hbl.out hb8); clear hb8
            go_wp2_with fail
            exact ⟨⟨k + 1, hlt, by go_num, B8⟩, by simp [intOf]; omega⟩
          · obtain rfl : k = 18 := by omega
            have d1 : ¬ ((18 : Nat) : Int) < 18 := by omega
            obtain ⟨wa, hwa⟩ : ∃ W, W = wr := ⟨_, rfl⟩
            rw [← hwa] at hbl x1 ⊢
            clear hwa
            go_wp2_with fail
            clear x1
            go_loopw [9] (fun i' wr => ∃ k : Nat, k ≤ n2 ∧ i' = .int .i64 k ∧ Hid (Below (B + 1) W0 wr)) (fun i' _ => n2 - (intOf i').toNat)
            case atStart => exact ⟨0, by omega, rfl, hbl⟩
            case round =>
              clear hbl
              obtain ⟨k, hk, rfl, hbl⟩ := hrel
              have GG := Lib.hid (Q.out.blk _ hbl.out)
              by_cases hlt : k < n2
              · have x2 := (cells3 GG.out).2.2
                obtain ⟨b, off, rfl, hb, hcell⟩ := (Q.out.r2 _ hbl.out) (by rw [sv_len, N2.out]; omega)
                have hc := hcell k _ (getD_at (by rw [N2.out]; exact hlt))
                have IA := Lib.hid (I2.out k hlt)
                clear hcell
                generalize P.getD k [] = y at *
                have d1 : (k : Int) < (n2 : Int) := by omega
                go_wp2_with fail
                refine (IA.out _).mono ?_
                rintro e w8 ⟨rfl, hb8⟩
                have B8 := Lib.hid (Q.out.next _ _ hbl.out hb8); clear hb8
                go_wp2_with fail
                exact ⟨⟨k + 1, hlt, by go_num, B8⟩, by simp [intOf]; omega⟩
              · obtain rfl : k = n2 := by omega
                have d1 : ¬ (k : Int) < (k : Int) := by omega
                obtain ⟨wb, hwb⟩ : ∃ W, W = wr := ⟨_, rfl⟩
                rw [← hwb] at hbl GG ⊢
                clear hwb
                obtain ⟨x0, x1, x2⟩ := cells3 GG.out
                obtain ⟨r, hr⟩ : ∃ r, wb.heap.size = r := ⟨_, rfl⟩
                have BR : Hid (B + 1 ≤ r) := Lib.hid (by rw [← hr]; exact Q.out.sz _ hbl.out)
                have hBr : B < r := BR.out
                have hBr1 : B < r + 1 := by omega
                have i17 : (17 : Int) ≤ (c1 : Int) := by omega
                go_wp2_with fail
                obtain ⟨W5, hW5⟩ : ∃ W, W = (wb.alloc (.cells #[.int .i64 (j : Int), .slice A1 17 c1, .slice A2 k c2] 24)).alloc (.cells #[.int .i64 (j : Int), .slice A1 18 c1, .slice A2 k c2] 24) := ⟨_, rfl⟩
                have z5 : W5.heap.size = r + 1 + 1 := by rw [hW5, ← hr]; simp
                have L5 : Hid (W5.heap[r]? = some (.cells #[.int .i64 (j : Int), .slice A1 17 c1, .slice A2 k c2] 24 (0, 0))) := Lib.hid (by rw [hW5, ← hr]; exact (alloc_old _ _ (by simp)).trans (alloc_new' _ _ _ rfl))
                have M5 : Hid (W5.heap[r + 1]? = some (.cells #[.int .i64 (j : Int), .slice A1 18 c1, .slice A2 k c2] 24 (0, 0))) := Lib.hid (by rw [hW5, ← hr]; exact alloc_new' _ _ _ (by simp))
                have B5 : Hid (Below (B + 1) W0 W5) := Lib.hid (by
                  rw [hW5]; exact Q.out.next _ _ hbl.out (((Below.refl _ _).alloc (Nat.le_refl _) _).alloc (by simp) _))
                rw [← hW5]
                have GB5 := Lib.hid (Q.out.blk _ B5.out)
                have nB : ¬ (B = r + 1) := by omega
                have C0 : ∀ w', But (fun k => k = r + 1) W5 w' → w'.cell? ⟨B, 0, none⟩ = some (.int .i64 (j : Int)) := fun w' h => h.c nB (cells3 GB5.out).1
                have C2 : ∀ w', But (fun k => k = r + 1) W5 w' → w'.cell? ⟨B, 2, none⟩ = some (.slice A2 k c2) := fun w' h => h.c nB (cells3 GB5.out).2.2
                have m0 := (cells3 M5.out).1
                have mf := free_blk M5.out 0
                have ws : IntKind.i64.wrap ((j : Int) + (q : Int)) = (j : Int) + (q : Int) := IntWalk.i64_in _ (by omega)
                have wd : IntKind.i64.wrap ((j : Int) - (q : Int)) = (j : Int) - (q : Int) := IntWalk.i64_in _ (by omega)
                obtain ⟨PW1, PW2⟩ := PW.out
                clear hW5 x0 x1 x2 GG hbl d1 hr i17
                (refine wp_region_noPanic ?_; refine wp_region_held_drew (S := (fun w' => But (fun k => k = r + 1) W5 w')) (by kernel_rfl) ?_ (fun hHeld => ?_); exact (But.drew (But.refl _ _)))
                (refine wpAnyH_take (i := 0) (oi := _) (v := ?_) rfl (by kernel_rfl) (by kernel_rfl) (by kernel_rfl) (fun _ _ _ h => h) (Or.inl ⟨?_, ?_⟩) (by assumption) ?_; rotate_left; (focus (first | rfl | (simp [Region.wanted, yielded]; done))); (focus (intro w hSw; (try dsimp only at hSw); go_simp; all_goals (with_reducible rfl))); try simp only [Act.put, List.getElem_toArray, List.getElem_cons_zero, List.getElem_cons_succ, List.setIfInBounds_toArray, List.set_cons_zero, List.set_cons_succ])
                (refine wpAnyH_take (i := 1) (oi := _) (v := ?_) rfl (by kernel_rfl) (by kernel_rfl) (by kernel_rfl) (fun _ _ _ h => h) (Or.inl ⟨?_, ?_⟩) (by assumption) ?_; rotate_left; (focus (first | rfl | (simp [Region.wanted, yielded]; done))); (focus (intro w hSw; (try dsimp only at hSw); go_simp; all_goals (with_reducible rfl))); try simp only [Act.put, List.getElem_toArray, List.getElem_cons_zero, List.getElem_cons_succ, List.setIfInBounds_toArray, List.set_cons_zero, List.set_cons_succ])
                (refine wpAnyH_take (i := 2) (oi := _) (v := ?_) rfl (by kernel_rfl) (by kernel_rfl) (by kernel_rfl) (fun _ _ _ h => h) (Or.inl ⟨?_, ?_⟩) (by assumption) ?_; rotate_left; (focus (first | rfl | (simp [Region.wanted, yielded]; done))); (focus (intro w hSw; (try dsimp only at hSw); go_simp; all_goals (with_reducible rfl))); try simp only [Act.put, List.getElem_toArray, List.getElem_cons_zero, List.getElem_cons_succ, List.setIfInBounds_toArray, List.set_cons_zero, List.set_cons_succ])
                (refine wpAnyH_take (i := 3) (oi := _) (v := ?_) rfl (by kernel_rfl) (by kernel_rfl) (by kernel_rfl) (fun _ _ _ h => h) (Or.inl ⟨?_, ?_⟩) (by assumption) ?_; rotate_left; (focus (first | rfl | (simp [Region.wanted, yielded]; done))); (focus (intro w hSw; (try dsimp only at hSw); go_simp; all_goals (with_reducible rfl))); try simp only [Act.put, List.getElem_toArray, List.getElem_cons_zero, List.getElem_cons_succ, List.setIfInBounds_toArray, List.set_cons_zero, List.set_cons_succ])
                (refine wpAnyH_take (i := 4) (oi := _) (v := ?_) rfl (by kernel_rfl) (by kernel_rfl) (by kernel_rfl) (fun _ _ _ h => h) (Or.inl ⟨?_, ?_⟩) (by assumption) ?_; rotate_left; (focus (first | rfl | (simp [Region.wanted, yielded]; done))); (focus (intro w hSw; (try dsimp only at hSw); go_simp; all_goals (with_reducible rfl))); try simp only [Act.put, List.getElem_toArray, List.getElem_cons_zero, List.getElem_cons_succ, List.setIfInBounds_toArray, List.set_cons_zero, List.set_cons_succ])
                (refine wpAnyH_take (i := 5) (oi := _) (v := ?_) rfl (by kernel_rfl) (by kernel_rfl) (by kernel_rfl) (fun _ _ _ h => h) (Or.inl ⟨?_, ?_⟩) (by assumption) ?_; rotate_left; (focus (first | rfl | (simp [Region.wanted, yielded]; done))); (focus (intro w hSw; (try dsimp only at hSw); go_simp; all_goals (with_reducible rfl))); try simp only [Act.put, List.getElem_toArray, List.getElem_cons_zero, List.getElem_cons_succ, List.setIfInBounds_toArray, List.set_cons_zero, List.set_cons_succ])
                (refine wpAnyH_take (i := 6) (oi := _) (v := ?_) rfl (by kernel_rfl) (by kernel_rfl) (by kernel_rfl) (fun _ _ _ h => h) (Or.inl ⟨?_, ?_⟩) (by assumption) ?_; rotate_left; (focus (first | rfl | (simp [Region.wanted, yielded]; done))); (focus (intro w hSw; (try dsimp only at hSw); go_simp; all_goals (with_reducible rfl))); try simp only [Act.put, List.getElem_toArray, List.getElem_cons_zero, List.getElem_cons_succ, List.setIfInBounds_toArray, List.set_cons_zero, List.set_cons_succ])
                (refine wpAnyH_take (i := 7) (oi := _) (v := ?_) rfl (by kernel_rfl) (by kernel_rfl) (by kernel_rfl) (fun _ _ _ h => h) (Or.inl ⟨?_, ?_⟩) (by assumption) ?_; rotate_left; (focus (first | rfl | (simp [Region.wanted, yielded]; done))); (focus (intro w hSw; (try dsimp only at hSw); go_simp; all_goals (with_reducible rfl))); try simp only [Act.put, List.getElem_toArray, List.getElem_cons_zero, List.getElem_cons_succ, List.setIfInBounds_toArray, List.set_cons_zero, List.set_cons_succ])
                (refine wpAnyH_ready (rs := [8]) (by kernel_rfl) (by simp) ?_; refine AllReadyH.cons (o := _) rfl (fun K hK => ?_) AllReadyH.nil; go_simp)
                (refine hK.out _ _ (But.drew (But.set (X := fun k => k = r + 1) (But.refl _ _) (p := ⟨r + 1, 0, none⟩) rfl _)) (fun hHeld2 => ?_); clear hK K hHeld; have hHeld := hHeld2; clear hHeld2; try simp only [Act.put, List.getElem_toArray, List.getElem_cons_zero, List.getElem_cons_succ, List.setIfInBounds_toArray, List.set_cons_zero, List.set_cons_succ])
                (refine wpAnyH_done (by kernel_rfl) ?_ _; refine NoPanic.normal ?_)
                clear hHeld C0 C2 m0 mf
                obtain ⟨W6, hW6⟩ : ∃ W, W = (W5.setCell ⟨r + 1, 0, none⟩ (.int .i64 ((j : Int) + (q : Int)))).drew := ⟨_, rfl⟩
                have z6 : W6.heap.size = r + 1 + 1 := by rw [hW6]; simp; exact z5
                have L6 : Hid (W6.heap[r]? = some (.cells #[.int .i64 (j : Int), .slice A1 17 c1, .slice A2 k c2] 24 (0, 0))) := Lib.hid (by rw [hW6]; exact (Below.heap_setCell _ _ _ _ (by show r ≠ r + 1; omega)).trans L5.out)
                have M6 : Hid (W6.heap[r + 1]? = some (.cells #[.int .i64 ((j : Int) + (q : Int)), .slice A1 18 c1, .slice A2 k c2] 24 (0, 0))) := Lib.hid (by rw [hW6]; exact row_put M5.out _)
                have B6 : Hid (Below (B + 1) W0 W6) := Lib.hid (by rw [hW6]; exact (B5.out.setCell (by show B + 1 ≤ r + 1; omega) _).drew)
                rw [← hW6]
                clear hW6 L5 M5 B5 GB5 z5
                obtain ⟨x0, x1, x2⟩ := cells3 (Q.out.blk _ B6.out)
                go_wp2_with fail
                obtain ⟨W7, hW7⟩ : ∃ W, W = W6.alloc (.cells #[.int .i64 (j : Int), .slice A1 18 c1, .slice A2 k c2] 24) := ⟨_, rfl⟩
                have z7 : W7.heap.size = r + 1 + 1 + 1 := by rw [hW7]; simp; exact z6
                have L7 : Hid (W7.heap[r]? = some (.cells #[.int .i64 (j : Int), .slice A1 17 c1, .slice A2 k c2] 24 (0, 0))) := Lib.hid (by rw [hW7]; exact (alloc_old _ _ (by rw [z6]; omega)).trans L6.out)
                have M7 : Hid (W7.heap[r + 1]? = some (.cells #[.int .i64 ((j : Int) + (q : Int)), .slice A1 18 c1, .slice A2 k c2] 24 (0, 0))) := Lib.hid (by rw [hW7]; exact (alloc_old _ _ (by rw [z6]; omega)).trans M6.out)
                have O7 : Hid (W7.heap[r + 1 + 1]? = some (.cells #[.int .i64 (j : Int), .slice A1 18 c1, .slice A2 k c2] 24 (0, 0))) := Lib.hid (by rw [hW7]; exact alloc_new' _ _ _ z6.symm)
                have B7 : Hid (Below (B + 1) W0 W7) := Lib.hid (by
                  rw [hW7]; exact Q.out.next _ _ B6.out ((Below.refl _ _).alloc (Nat.le_refl _) _))
                rw [← hW7]
                have GB7 := Lib.hid (Q.out.blk _ B7.out)
                have nB2 : ¬ (B = r + 1 + 1) := by omega
                have C0 : ∀ w', But (fun k => k = r + 1 + 1) W7 w' → w'.cell? ⟨B, 0, none⟩ = some (.int .i64 (j : Int)) := fun w' h => h.c nB2 (cells3 GB7.out).1
                have C2 : ∀ w', But (fun k => k = r + 1 + 1) W7 w' → w'.cell? ⟨B, 2, none⟩ = some (.slice A2 k c2) := fun w' h => h.c nB2 (cells3 GB7.out).2.2
                have m0 := (cells3 O7.out).1
                have mf := free_blk O7.out 0
                clear hW7 x0 x1 x2 L6 M6 B6 z6
                (refine wp_region_noPanic ?_; refine wp_region_held_drew (S := (fun w' => But (fun k => k = r + 1 + 1) W7 w')) (by kernel_rfl) ?_ (fun hHeld => ?_); exact (But.drew (But.refl _ _)))
                (refine wpAnyH_take (i := 0) (oi := _) (v := ?_) rfl (by kernel_rfl) (by kernel_rfl) (by kernel_rfl) (fun _ _ _ h => h) (Or.inl ⟨?_, ?_⟩) (by assumption) ?_; rotate_left; (focus (first | rfl | (simp [Region.wanted, yielded]; done))); (focus (intro w hSw; (try dsimp only at hSw); go_simp; all_goals (with_reducible rfl))); try simp only [Act.put, List.getElem_toArray, List.getElem_cons_zero, List.getElem_cons_succ, List.setIfInBounds_toArray, List.set_cons_zero, List.set_cons_succ])
                (refine wpAnyH_take (i := 1) (oi := _) (v := ?_) rfl (by kernel_rfl) (by kernel_rfl) (by kernel_rfl) (fun _ _ _ h => h) (Or.inl ⟨?_, ?_⟩) (by assumption) ?_; rotate_left; (focus (first | rfl | (simp [Region.wanted, yielded]; done))); (focus (intro w hSw; (try dsimp only at hSw); go_simp; all_goals (with_reducible rfl))); try simp only [Act.put, List.getElem_toArray, List.getElem_cons_zero, List.getElem_cons_succ, List.setIfInBounds_toArray, List.set_cons_zero, List.set_cons_succ])
                (refine wpAnyH_take (i := 2) (oi := _) (v := ?_) rfl (by kernel_rfl) (by kernel_rfl) (by kernel_rfl) (fun _ _ _ h => h) (Or.inl ⟨?_, ?_⟩) (by assumption) ?_; rotate_left; (focus (first | rfl | (simp [Region.wanted, yielded]; done))); (focus (intro w hSw; (try dsimp only at hSw); go_simp; all_goals (with_reducible rfl))); try simp only [Act.put, List.getElem_toArray, List.getElem_cons_zero, List.getElem_cons_succ, List.setIfInBounds_toArray, List.set_cons_zero, List.set_cons_succ])
                (refine wpAnyH_take (i := 3) (oi := _) (v := ?_) rfl (by kernel_rfl) (by kernel_rfl) (by kernel_rfl) (fun _ _ _ h => h) (Or.inl ⟨?_, ?_⟩) (by assumption) ?_; rotate_left; (focus (first | rfl | (simp [Region.wanted, yielded]; done))); (focus (intro w hSw; (try dsimp only at hSw); go_simp; all_goals (with_reducible rfl))); try simp only [Act.put, List.getElem_toArray, List.getElem_cons_zero, List.getElem_cons_succ, List.setIfInBounds_toArray, List.set_cons_zero, List.set_cons_succ])
                (refine wpAnyH_take (i := 4) (oi := _) (v := ?_) rfl (by kernel_rfl) (by kernel_rfl) (by kernel_rfl) (fun _ _ _ h => h) (Or.inl ⟨?_, ?_⟩) (by assumption) ?_; rotate_left; (focus (first | rfl | (simp [Region.wanted, yielded]; done))); (focus (intro w hSw; (try dsimp only at hSw); go_simp; all_goals (with_reducible rfl))); try simp only [Act.put, List.getElem_toArray, List.getElem_cons_zero, List.getElem_cons_succ, List.setIfInBounds_toArray, List.set_cons_zero, List.set_cons_succ])
                (refine wpAnyH_take (i := 5) (oi := _) (v := ?_) rfl (by kernel_rfl) (by kernel_rfl) (by kernel_rfl) (fun _ _ _ h => h) (Or.inl ⟨?_, ?_⟩) (by assumption) ?_; rotate_left; (focus (first | rfl | (simp [Region.wanted, yielded]; done))); (focus (intro w hSw; (try dsimp only at hSw); go_simp; all_goals (with_reducible rfl))); try simp only [Act.put, List.getElem_toArray, List.getElem_cons_zero, List.getElem_cons_succ, List.setIfInBounds_toArray, List.set_cons_zero, List.set_cons_succ])
                (refine wpAnyH_take (i := 6) (oi := _) (v := ?_) rfl (by kernel_rfl) (by kernel_rfl) (by kernel_rfl) (fun _ _ _ h => h) (Or.inl ⟨?_, ?_⟩) (by assumption) ?_; rotate_left; (focus (first | rfl | (simp [Region.wanted, yielded]; done))); (focus (intro w hSw; (try dsimp only at hSw); go_simp; all_goals (with_reducible rfl))); try simp only [Act.put, List.getElem_toArray, List.getElem_cons_zero, List.getElem_cons_succ, List.setIfInBounds_toArray, List.set_cons_zero, List.set_cons_succ])
                (refine wpAnyH_take (i := 7) (oi := _) (v := ?_) rfl (by kernel_rfl) (by kernel_rfl) (by kernel_rfl) (fun _ _ _ h => h) (Or.inl ⟨?_, ?_⟩) (by assumption) ?_; rotate_left; (focus (first | rfl | (simp [Region.wanted, yielded]; done))); (focus (intro w hSw; (try dsimp only at hSw); go_simp; all_goals (with_reducible rfl))); try simp only [Act.put, List.getElem_toArray, List.getElem_cons_zero, List.getElem_cons_succ, List.setIfInBounds_toArray, List.set_cons_zero, List.set_cons_succ])
                (refine wpAnyH_ready (rs := [8]) (by kernel_rfl) (by simp) ?_; refine AllReadyH.cons (o := _) rfl (fun K hK => ?_) AllReadyH.nil; go_simp)
                (refine hK.out _ _ (But.drew (But.set (X := fun k => k = r + 1 + 1) (But.refl _ _) (p := ⟨r + 1 + 1, 0, none⟩) rfl _)) (fun hHeld2 => ?_); clear hK K hHeld; have hHeld := hHeld2; clear hHeld2; try simp only [Act.put, List.getElem_toArray, List.getElem_cons_zero, List.getElem_cons_succ, List.setIfInBounds_toArray, List.set_cons_zero, List.set_cons_succ])
                (refine wpAnyH_done (by kernel_rfl) ?_ _; refine NoPanic.normal ?_)
                clear hHeld C0 C2 m0 mf
                obtain ⟨W8, hW8⟩ : ∃ W, W = (W7.setCell ⟨r + 1 + 1, 0, none⟩ (.int .i64 ((j : Int) - (q : Int)))).drew := ⟨_, rfl⟩
                have L8 : Hid (W8.heap[r]? = some (.cells #[.int .i64 (j : Int), .slice A1 17 c1, .slice A2 k c2] 24 (0, 0))) := Lib.hid (by rw [hW8]; exact (Below.heap_setCell _ _ _ _ (by show r ≠ r + 1 + 1; omega)).trans L7.out)
                have M8 : Hid (W8.heap[r + 1]? = some (.cells #[.int .i64 ((j : Int) + (q : Int)), .slice A1 18 c1, .slice A2 k c2] 24 (0, 0))) := Lib.hid (by rw [hW8]; exact (Below.heap_setCell _ _ _ _ (by show r + 1 ≠ r + 1 + 1; omega)).trans M7.out)
                have O8 : Hid (W8.heap[r + 1 + 1]? = some (.cells #[.int .i64 ((j : Int) - (q : Int)), .slice A1 18 c1, .slice A2 k c2] 24 (0, 0))) := Lib.hid (by rw [hW8]; exact row_put O7.out _)
                have B8 : Hid (Below (B + 1) W0 W8) := Lib.hid (by rw [hW8]; exact (B7.out.setCell (by show B + 1 ≤ r + 1 + 1; omega) _).drew)
                rw [← hW8]
                clear hW8 L7 M7 O7 B7 GB7 z7 PW1 PW2 ws wd
                have V1 : Hid (∀ u, Below (B + 1) W0 u → Calls Tryd.prog 18 #[.string pub, .string m, .agg #[.int .i64 (j : Int), .slice A1 17 c1, .slice A2 k c2]] u fun e w' => e = .returned (.bool false) ∧ Below u.heap.size u w') := Lib.hid (fun u hu => by
                  have sl : (S.take 17).length = 17 := by rw [List.length_take, N1.out]; rfl
                  have := verify_any pub m (j : Int) A1 A2 c1 c2 (S.take 17) P u (by omega) ⟨by rw [sv_take]; exact (Q.out.r1 u hu).pre 17, by rw [sl]; decide, fun t ht => S1.out t (List.mem_of_mem_take ht)⟩ ⟨Q.out.r2 u hu, l2', S2.out⟩ (Q.out.tab u hu)
                  rw [VL.out, sl, N2.out] at this
                  exact this)
                have V2 : Hid (∀ i : Int, (i < 0 ∨ (q : Int) ≤ i) → ∀ u, Below (B + 1) W0 u → Calls Tryd.prog 18 #[.string pub, .string m, .agg #[.int .i64 i, .slice A1 18 c1, .slice A2 k c2]] u fun e w' => e = .returned (.bool false) ∧ Below u.heap.size u w') := Lib.hid (fun i hi u hu => by
                  have := verify_any pub m i A1 A2 c1 c2 S P u (by omega) ⟨Q.out.r1 u hu, l1', S1.out⟩ ⟨Q.out.r2 u hu, l2', S2.out⟩ (Q.out.tab u hu)
                  rw [VG.out i hi, N1.out, N2.out] at this
                  exact this)
                have hr8 : r + 1 + 1 < W8.heap.size := lt_of_block O8.out
                obtain ⟨x0, x1, x2⟩ := cells3 L8.out
                go_wp2_with fail
                refine (V1.out _ B8.out).mono ?_
                rintro e w9 ⟨rfl, hb9⟩
                have B9 := Lib.hid (Q.out.next _ _ B8.out hb9)
                have M9 := Lib.hid ((hb9.block (r + 1) (by omega)).trans M8.out)
                have O9 := Lib.hid ((hb9.block (r + 1 + 1) (by omega)).trans O8.out)
                clear hb9 x0 x1 x2 L8 M8 O8 B8 hr8
                have hr9 : r + 1 + 1 < w9.heap.size := lt_of_block O9.out
                obtain ⟨x0, x1, x2⟩ := cells3 M9.out
                go_wp2_with fail
                refine (V2.out _ (.inr (by omega)) _ B9.out).mono ?_
                rintro e w10 ⟨rfl, hb10⟩
                have B10 := Lib.hid (Q.out.next _ _ B9.out hb10)
                have O10 := Lib.hid ((hb10.block (r + 1 + 1) (by omega)).trans O9.out)
                clear hb10 x0 x1 x2 M9 O9 B9 hr9
                obtain ⟨x0, x1, x2⟩ := cells3 O10.out
                go_wp2_with fail
                refine (V2.out _ (.inl (by omega)) _ B10.out).mono ?_
                rintro e w11 ⟨rfl, hb11⟩
                have B11 := Lib.hid (Q.out.next _ _ B10.out hb11)
                clear hb11 x0 x1 x2 B10 O10
                go_wp2_with fail
                go_ret
                exact ⟨rfl, Q.out.bel _ B11.out⟩
end Go.Proofs.YthceonkdmcidcaaDoor
