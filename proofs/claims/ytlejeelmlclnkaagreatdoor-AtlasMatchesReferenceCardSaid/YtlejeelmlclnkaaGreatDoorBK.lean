/- WALKS: atlas.Find, atlas.Same. -/
import Derived.Test.YtlejeelmlclnkaaGreatDoorBJ
set_option linter.unusedSimpArgs false
set_option linter.unusedVariables false
namespace Go.Proofs.YtlejeelmlclnkaaGreatDoor
open Go.RowKit

set_option maxHeartbeats 1000000 in
theorem find1_any (r : RO) (id : Tx) (bi : Nat) (w : World) (h : ObIs w r) (hi : w.heap[bi]? = some (.cells #[.string (mkB id)] 9 (0, 0))) :
    Calls Tryz.prog 73 #[roA r, .pointer (some ⟨bi, 0, none⟩)] w fun e w' => e = .returned (.bool (decide (r.c.id = id))) ∧ Below w.heap.size w w' := by
  obtain ⟨A1, q1, v1, -⟩ := h.rs
  obtain ⟨A2, q2, v2, -⟩ := h.ts
  unfold roA
  rw [v1, v2]
  have BX := Lib.hid (show Below w.heap.size w (w.alloc (.cells #[.string (mkB r.c.id), .int .i64 r.c.kind, .int .i64 r.c.x, .int .i64 r.c.y, .slice A1 r.c.refs.length q1, .slice A2 r.c.tags.length q2] 43)) from (Below.refl _ _).alloc (Nat.le_refl _) _)
  have k0 := cell_of_row w bi 0 _ _ _ hi
  simp at k0
  have hbi : bi < w.heap.size := by
    rcases Nat.lt_or_ge bi w.heap.size with h' | h'
    · exact h'
    · rw [Array.getElem?_eq_none h'] at hi; cases hi
  have t1 := mkB_tl r.c.id
  have t2 := mkB_tl id
  clear h v1 v2 hi
  generalize r.c.id = x at *
  by_cases e : x = id
  · have e1 : (x == id) = true := by rw [e]; simp
    have q := decide_eq_true e
    rw [q]
    clear e q
    go_enter Tryz.func73, Tryz.ntmps73
    go_wp2_with fail
    go_ret
    exact ⟨rfl, BX.out⟩
  · have e1 : (x == id) = false := by simpa using e
    have q := decide_eq_false e
    rw [q]
    clear e q
    go_enter Tryz.func73, Tryz.ntmps73
    go_wp2_with fail
    go_ret
    exact ⟨rfl, BX.out⟩
/-- the index of an Id; -1 -/
def findR (l : List At.Ob) (id : Tx) : Int := match l.findIdx? fun o => decide (o.id = id) with
  | some i => (i : Int)
  | none => -1
theorem findR_at {l : List At.Ob} {id : Tx} {k : Nat} (hk : k < l.length) (he : l[k].id = id) (hb : ∀ i (h : i < l.length), i < k → l[i].id ≠ id) : findR l id = (k : Int) := by
  unfold findR
  rw [show (l.findIdx? fun o => decide (o.id = id)) = some k from List.findIdx?_eq_some_iff_getElem.2 ⟨hk, by simpa using he, fun j hj => by simpa using hb j (by omega) hj⟩]
theorem findR_none {l : List At.Ob} {id : Tx} (hb : ∀ i (h : i < l.length), l[i].id ≠ id) : findR l id = -1 := by
  unfold findR
  rw [show (l.findIdx? fun o => decide (o.id = id)) = none from List.findIdx?_eq_none_iff.2 fun x hx => by
    obtain ⟨i, hi, rfl⟩ := List.mem_iff_getElem.1 hx
    simpa using hb i hi]
set_option maxHeartbeats 1000000 in
set_option maxRecDepth 100000 in
theorem idxo_any (A : Option Addr) (n c : Nat) (l : List RO) (id : Tx) (bi : Nat) (w : World) (hn : n = l.length) (h : Ms w A l) (hi : w.heap[bi]? = some (.cells #[.string (mkB id)] 9 (0, 0))) (hbi : bi < w.heap.size) :
    Calls Tryz.prog 72 #[.slice A n c, .func (.func 73) #[] #[.pointer (some ⟨bi, 0, none⟩)]] w fun e w' => e = .returned (.int .i64 (findR (cts l) id)) ∧ Below w.heap.size w w' := by
  have H := Lib.hid h
  have HN := Lib.hid hn
  have HI := Lib.hid hi
  have hl : n ≤ 100000 := by rw [hn]; exact h.len
  obtain ⟨R, hR⟩ : ∃ R, findR (cts l) id = R := ⟨_, rfl⟩
  have HR := Lib.hid hR
  rw [hR]
  clear h hn hi hR
  go_enter Tryz.func72, Tryz.ntmps72
  go_wp2_with fail
  go_loopw [8] (fun s8 wr => ∃ k : Nat, k ≤ n ∧ s8 = .int .i64 (k : Int) ∧ Hid (∀ i (hi : i < l.length), i < k → l[i].c.id ≠ id) ∧ Hid (Below w.heap.size w wr)) (fun i _ => n - (intOf i).toNat)
  case atStart => exact ⟨0, Nat.zero_le _, rfl, Lib.hid (fun i _ h => absurd h (Nat.not_lt_zero _)), Lib.hid (Below.refl _ _)⟩
  case round =>
    obtain ⟨k, hkn, rfl, AL, BL⟩ := hrel
    by_cases hlt : k < n
    · have hkl : k < l.length := by rw [← HN.out]; exact hlt
      have d1 : (k : Int) < (n : Int) := by omega
      have d2 : (0 : Int) ≤ (k : Int) := by omega
      obtain ⟨b, off, rfl, hb, c0, c1, c2, c3, c4, c5⟩ := ros_at (H.out.rd.below BL.out) hkl
      have HO := H.out.ob l[k] (List.getElem_mem hkl)
      have FT : Hid (l[k].c.id = id → R = (k : Int)) := Lib.hid (fun e => by
        rw [← HR.out]
        exact findR_at (by rw [cts_len]; exact hkl) (by simpa [cts] using e) (fun i hi hik => by simpa [cts] using AL.out i (by rw [cts_len] at hi; exact hi) hik))
      have ALn : Hid (l[k].c.id ≠ id → ∀ i (hi : i < l.length), i < k + 1 → l[i].c.id ≠ id) := Lib.hid (fun hne i hi hik => by
        rcases Nat.lt_succ_iff_lt_or_eq.1 hik with h1 | h1
        · exact AL.out i hi h1
        · subst h1; exact hne)
      generalize l[k] = x at *
      obtain ⟨A1, q1, v1, -⟩ := HO.rs
      obtain ⟨A2, q2, v2, -⟩ := HO.ts
      have FD := Lib.hid (find1_any x id bi wr (HO.below BL.out) ((BL.out.block bi hbi).trans HI.out))
      unfold roA at FD
      rw [v1, v2] at FD
      rw [v1] at c4
      rw [v2] at c5
      clear HO v1 v2 AL
      go_wp2_with fail
      refine FD.out.mono ?_
      rintro e w2 ⟨rfl, hb2⟩
      have B2 := Lib.hid (BL.out.trans (hb2.mono BL.out.size)); clear hb2 BL FD c0 c1 c2 c3 c4 c5
      by_cases e : x.c.id = id
      · rw [decide_eq_true e]
        have R2 := Lib.hid (FT.out e)
        clear FT ALn e
        go_wp2_with fail
        go_ret
        exact ⟨by rw [R2.out]; rfl, B2.out⟩
      · rw [decide_eq_false e]
        have A2' := Lib.hid (ALn.out e)
        clear FT ALn e
        go_wp2_with fail
        exact ⟨⟨k + 1, by omega, by go_num, A2', B2⟩, by simp [intOf]; omega⟩
    · have d1 : ¬ (k : Int) < (n : Int) := by omega
      have R2 : Hid (R = -1) := Lib.hid (by
        rw [← HR.out]
        exact findR_none (fun i hi => by simpa [cts] using AL.out i (by rw [cts_len] at hi; exact hi) (by rw [cts_len, ← HN.out] at hi; omega)))
      clear AL
      go_wp2_with fail
      go_ret
      exact ⟨by rw [R2.out]; rfl, BL.out⟩
set_option maxHeartbeats 1000000 in
theorem afind_any (A : Option Addr) (n c : Nat) (l : List RO) (id : Tx) (w : World) (hn : n = l.length) (h : Ms w A l) :
    Calls Tryz.prog 36 #[.agg #[.slice A n c], .string (mkB id)] w fun e w' => e = .returned (.int .i64 (findR (cts l) id)) ∧ Below w.heap.size w w' := by
  obtain ⟨W, hW⟩ : ∃ W, W = (w.alloc (.cells #[.slice A n c] 24)).alloc (.cells #[.string (mkB id)] 9) := ⟨_, rfl⟩
  have BX : Below w.heap.size w W := by rw [hW]; exact ((Below.refl _ _).alloc (Nat.le_refl _) _).alloc (by simp) _
  have HX : W.heap[w.heap.size]? = some (.cells #[.slice A n c] 24 (0, 0)) := by rw [hW]; exact (alloc_old _ _ (by simp)).trans (heap_alloc_new w _)
  have HI : W.heap[w.heap.size + 1]? = some (.cells #[.string (mkB id)] 9 (0, 0)) := by rw [hW]; exact alloc_new' _ _ _ (by simp)
  have ZW : W.heap.size = w.heap.size + 2 := by rw [hW]; simp
  have VD := Lib.hid (idxo_any A n c l id (w.heap.size + 1) W hn (h.below BX) HI (by omega))
  have w0 := cell_of_row W w.heap.size 0 _ _ _ HX
  simp at w0
  have B0 := Lib.hid BX
  generalize findR (cts l) id = R at *
  clear h hn HI HX BX
  go_enter Tryz.func36, Tryz.ntmps36
  go_upto_region 1 with fail
  rw [← hW]
  clear hW
  go_wp2_with fail
  refine VD.out.mono ?_
  rintro e w1 ⟨rfl, b1⟩
  have B1 := Lib.hid (B0.out.trans (b1.mono B0.out.size))
  clear b1
  go_wp2_with fail
  go_ret
  exact ⟨rfl, B1.out⟩
set_option maxHeartbeats 2000000 in
set_option maxRecDepth 100000 in
theorem eqo_any (A B : Option Addr) (c d : Nat) (l m : List RO) (n1 n2 : Nat) (w : World) (hn1 : n1 = l.length) (hn2 : n2 = m.length) (h : Ms w A l) (h2 : Ms w B m) :
    Calls Tryz.prog 54 #[.slice A n1 c, .slice B n2 d, .func (.func 44) #[] #[]] w fun e w' => e = .returned (.bool (At.sameL (cts l) (cts m))) ∧ Below w.heap.size w w' := by
  have hl : n1 ≤ 100000 := by rw [hn1]; exact h.len
  have hm : n2 ≤ 100000 := by rw [hn2]; exact h2.len
  have H := Lib.hid h; clear h
  have H2 := Lib.hid h2; clear h2
  have HN := Lib.hid hn1
  have HM := Lib.hid hn2
  clear hn1 hn2
  obtain ⟨R, hR⟩ : ∃ R, At.sameL (cts l) (cts m) = R := ⟨_, rfl⟩
  have HR := Lib.hid hR
  rw [hR]
  clear hR
  have HB : Hid (Below w.heap.size w w) := Lib.hid (Below.refl _ _)
  by_cases hlen : n1 = n2
  · have hq : ((n1 : Int) != (n2 : Int)) = false := by rw [hlen]; simp
    have HL := Lib.hid hlen
    have HR0 : Hid (R = At.sameL (cts (l.drop 0)) (cts (m.drop 0))) := Lib.hid HR.out.symm
    clear hlen HR
    go_enter Tryz.func54, Tryz.ntmps54
    go_wp2_with fail
    go_loopw [7, 8, 9, 17] (fun s7 s8 s9 i wr => ∃ k : Nat, k ≤ n1 ∧ i = .int .i64 (k : Int) ∧ (∃ p, s7 = p) ∧ (∃ p, s8 = p) ∧ (∃ p, s9 = p) ∧ Hid (R = At.sameL (cts (l.drop k)) (cts (m.drop k))) ∧ Hid (Below w.heap.size w wr)) (fun _ _ _ i _ => n1 - (intOf i).toNat)
    case atStart => exact ⟨0, Nat.zero_le _, rfl, ⟨_, rfl⟩, ⟨_, rfl⟩, ⟨_, rfl⟩, HR0, HB⟩
    case round =>
      clear HB HR0
      obtain ⟨k, hk, rfl, ⟨p7, rfl⟩, ⟨p8, rfl⟩, ⟨p9, rfl⟩, HR, BL⟩ := hrel
      by_cases hlt : k < n1
      · have hkl : k < l.length := by rw [← HN.out]; exact hlt
        have hkm : k < m.length := by rw [← HM.out, ← HL.out]; exact hlt
        have d1 : (k : Int) < (n1 : Int) := by omega
        have d3 : (k : Int) < (n2 : Int) := by have := HL.out; omega
        have d2 : (0 : Int) ≤ (k : Int) := by omega
        obtain ⟨b, off, rfl, hb, c0, c1, c2, c3, c4, c5⟩ := ros_at (H.out.rd.below BL.out) hkl
        obtain ⟨b', off', rfl, hb', c0', c1', c2', c3', c4', c5'⟩ := ros_at (H2.out.rd.below BL.out) hkm
        have HO := H.out.ob l[k] (List.getElem_mem hkl)
        have HO' := H2.out.ob m[k] (List.getElem_mem hkm)
        have SZ := (H.out.sz l[k] (List.getElem_mem hkl)).1
        have SZ' := (H2.out.sz m[k] (List.getElem_mem hkm)).1
        have HD : Hid (R = (At.sameO l[k].c m[k].c && At.sameL (cts (l.drop (k + 1))) (cts (m.drop (k + 1))))) := Lib.hid (HR.out.trans (by rw [List.drop_eq_getElem_cons hkl, List.drop_eq_getElem_cons hkm]; rfl))
        clear HR
        generalize l[k] = x at *
        generalize m[k] = y at *
        have SM : Hid (∀ u, Below wr.heap.size wr u → Calls Tryz.prog 44 #[roA x, roA y] u fun e w' => e = .returned (.bool (At.sameO x.c y.c)) ∧ Below u.heap.size u w') := Lib.hid (fun u hu => same_any x y u (HO.below (BL.out.trans (Below.mono hu BL.out.size))) (HO'.below (BL.out.trans (Below.mono hu BL.out.size))) SZ SZ')
        obtain ⟨A1, q1, v1, -⟩ := HO.rs
        obtain ⟨A2, q2, v2, -⟩ := HO.ts
        obtain ⟨A3, q3, v3, -⟩ := HO'.rs
        obtain ⟨A4, q4, v4, -⟩ := HO'.ts
        unfold roA at SM
        rw [v1, v2, v3, v4] at SM
        rw [v1] at c4
        rw [v2] at c5
        rw [v3] at c4'
        rw [v4] at c5'
        have BX : Hid (Below wr.heap.size wr ((wr.alloc (.cells #[.string (mkB x.c.id), .int .i64 x.c.kind, .int .i64 x.c.x, .int .i64 x.c.y, .slice A1 x.c.refs.length q1, .slice A2 x.c.tags.length q2] 43)).alloc (.cells #[.string (mkB y.c.id), .int .i64 y.c.kind, .int .i64 y.c.x, .int .i64 y.c.y, .slice A3 y.c.refs.length q3, .slice A4 y.c.tags.length q4] 43))) := Lib.hid (((Below.refl _ _).alloc (Nat.le_refl _) _).alloc (by simp) _)
        clear HO HO' SZ SZ' v1 v2 v3 v4
        go_wp2_with fail
        refine (SM.out _ BX.out).mono ?_
        rintro e w1 ⟨rfl, b1⟩
        have B1 := Lib.hid (BX.out.trans (b1.mono BX.out.size))
        have B2 := Lib.hid (BL.out.trans (Below.mono B1.out BL.out.size))
        clear b1 BX B1 SM c0 c1 c2 c3 c4 c5 c0' c1' c2' c3' c4' c5'
        cases hs : At.sameO x.c y.c
        · have RF : Hid (R = false) := Lib.hid (by rw [HD.out, hs]; rfl)
          clear HD
          go_wp2_with fail
          go_ret
          exact ⟨by rw [RF.out]; rfl, B2.out⟩
        · have R2 : Hid (R = At.sameL (cts (l.drop (k + 1))) (cts (m.drop (k + 1)))) := Lib.hid (by rw [HD.out, hs]; rfl)
          clear HD
          go_wp2_with fail
          exact ⟨⟨k + 1, by omega, by go_num, ⟨_, rfl⟩, ⟨_, rfl⟩, ⟨_, rfl⟩, R2, B2⟩, by simp [intOf]; omega⟩
      · have d1 : ¬ (k : Int) < (n1 : Int) := by omega
        have RT : Hid (R = true) := Lib.hid (by
          rw [HR.out, List.drop_eq_nil_of_le (by rw [← HN.out]; omega), List.drop_eq_nil_of_le (by rw [← HM.out, ← HL.out]; omega)]; rfl)
        clear HR
        go_wp2_with fail
        go_ret
        exact ⟨by rw [RT.out]; rfl, BL.out⟩
  · have hq : ((n1 : Int) != (n2 : Int)) = true := by simp; omega
    have RF : Hid (R = false) := Lib.hid (by
      rw [← HR.out]
      cases hx : At.sameL (cts l) (cts m)
      · rfl
      · have := congrArg List.length (At.sameL_iff.1 hx)
        rw [cts_len, cts_len] at this
        exact absurd (HN.out.trans (this.trans HM.out.symm)) hlen)
    clear hlen HR
    go_enter Tryz.func54, Tryz.ntmps54
    go_wp2_with fail
    go_ret
    exact ⟨by rw [RF.out]; rfl, HB.out⟩
set_option maxHeartbeats 1000000 in
theorem asame_any (A B : Option Addr) (c d : Nat) (l m : List RO) (n1 n2 : Nat) (w : World) (hn1 : n1 = l.length) (hn2 : n2 = m.length) (h : Ms w A l) (h2 : Ms w B m) :
    Calls Tryz.prog 17 #[.agg #[.slice A n1 c], .agg #[.slice B n2 d]] w fun e w' => e = .returned (.bool (At.sameL (cts l) (cts m))) ∧ Below w.heap.size w w' := by
  have BX : Hid (Below w.heap.size w ((w.alloc (.cells #[.slice A n1 c] 24)).alloc (.cells #[.slice B n2 d] 24))) := Lib.hid (((Below.refl _ _).alloc (Nat.le_refl _) _).alloc (by simp) _)
  have VD := Lib.hid (eqo_any A B c d l m n1 n2 _ hn1 hn2 (h.below BX.out) (h2.below BX.out))
  generalize At.sameL (cts l) (cts m) = R at *
  clear h hn1 h2 hn2
  go_enter Tryz.func17, Tryz.ntmps17
  go_wp2_with fail
  refine VD.out.mono ?_
  rintro e w1 ⟨rfl, b1⟩
  have B1 := Lib.hid (BX.out.trans (b1.mono BX.out.size))
  clear b1
  go_wp2_with fail
  go_ret
  exact ⟨rfl, B1.out⟩
end Go.Proofs.YtlejeelmlclnkaaGreatDoor
