/- WORDS AND WALKS: maps in memory; atlas.Valid, atlas.valid. -/
import Derived.Test.YtlejeelmlclnkaaGreatDoorBH
set_option linter.unusedSimpArgs false
set_option linter.unusedVariables false
namespace Go.Proofs.YtlejeelmlclnkaaGreatDoor
open Go.RowKit

/-- a list of objects that reads as it should -/
structure Ms (w : World) (A : Option Addr) (l : List RO) : Prop where
  rd : Rd w A (rosC l)
  ob : ∀ r ∈ l, ObIs w r
  sz : ∀ r ∈ l, ObSz r.c ∧ r.c.refs.length ≤ 100000
  len : l.length ≤ 100000
theorem Ms.below {w w' : World} {A : Option Addr} {l : List RO} (h : Ms w A l) (hb : Below w.heap.size w w') : Ms w' A l := ⟨h.rd.below hb, fun r hr => (h.ob r hr).below hb, h.sz, h.len⟩
def cts (l : List RO) : List At.Ob := l.map (·.c)
theorem cts_len (l : List RO) : (cts l).length = l.length := by simp [cts]
theorem validFrom_drop (l : List RO) (last : Tx) {k : Nat} (h : k < l.length) :
    At.validFrom last (cts (l.drop k)) = (At.validO l[k].c && At.lt last l[k].c.id && At.validFrom l[k].c.id (cts (l.drop (k + 1)))) := by
  rw [List.drop_eq_getElem_cons h]
  rfl
set_option maxHeartbeats 2000000 in
set_option maxRecDepth 100000 in
theorem avalid_any (A : Option Addr) (c : Nat) (l : List RO) (n : Nat) (w : World) (hn : n = l.length) (h : Ms w A l) :
    Calls Tryz.prog 12 #[.agg #[.slice A n c]] w fun e w' => e = .returned (.bool (At.validM (cts l))) ∧ Below w.heap.size w w' := by
  have H := Lib.hid h
  have HN := Lib.hid hn
  have hl : n ≤ 100000 := by rw [hn]; exact h.len
  clear h hn
  obtain ⟨R, hR⟩ : ∃ R, At.validM (cts l) = R := ⟨_, rfl⟩
  have HR : Hid (R = (At.validFrom [] (cts (l.drop 0)) && true)) := Lib.hid (by rw [← hR, Bool.and_true]; unfold At.validM; rw [decide_eq_true (by rw [cts_len, ← HN.out]; omega), Bool.and_true]; rfl)
  rw [hR]
  clear hR
  obtain ⟨W, hW⟩ : ∃ W, W = w.alloc (.cells #[.slice A n c] 24) := ⟨_, rfl⟩
  have HB : Hid (Below w.heap.size w W) := Lib.hid (by rw [hW]; exact (Below.refl _ _).alloc (Nat.le_refl _) _)
  have HX : Hid (W.heap[w.heap.size]? = some (.cells #[.slice A n c] 24 (0, 0))) := Lib.hid (by rw [hW]; exact heap_alloc_new w _)
  have HZ : W.heap.size = w.heap.size + 1 := by rw [hW]; simp
  have te := mkB_tl []
  have em : (ByteArray.mk #[]) = mkB [] := rfl
  go_enter Tryz.func12, Tryz.ntmps12
  go_upto_region 1 with fail
  rw [← hW]
  clear hW
  have w0 := cell_of_row W w.heap.size 0 _ _ _ HX.out
  simp at w0
  go_wp2_with fail
  try rw [em]
  go_loopw [3, 5, 9] (fun s3 s5 s9 wr => ∃ (k : Nat) (last : Tx), k ≤ n ∧ s9 = .int .i64 (k : Int) ∧ s3 = .string (mkB last) ∧ (∃ p, s5 = p) ∧ Hid (R = (At.validFrom last (cts (l.drop k)) && true)) ∧ Hid (Below W.heap.size W wr)) (fun _ _ i _ => n - (intOf i).toNat)
  case atStart => exact ⟨0, [], Nat.zero_le _, rfl, rfl, ⟨_, rfl⟩, HR, Lib.hid (Below.refl _ _)⟩
  case round =>
    clear HR w0
    obtain ⟨k, last, hk, rfl, rfl, ⟨p5, rfl⟩, HR, BL⟩ := hrel
    have tl := mkB_tl last
    have BW := Lib.hid (HB.out.trans (Below.mono BL.out HB.out.size))
    by_cases hlt : k < n
    · have hkl : k < l.length := by rw [← HN.out]; exact hlt
      have d1 : (k : Int) < (n : Int) := by omega
      have d2 : (0 : Int) ≤ (k : Int) := by omega
      obtain ⟨b, off, rfl, hb, c0, c1, c2, c3, c4, c5⟩ := ros_at (H.out.rd.below BW.out) hkl
      have HO := H.out.ob l[k] (List.getElem_mem hkl)
      have SZ := H.out.sz l[k] (List.getElem_mem hkl)
      have HD := Lib.hid (HR.out.trans (by rw [validFrom_drop l last hkl]))
      generalize l[k] = x at *
      have t1 := mkB_tl x.c.id
      have VD : Hid (∀ u, Below wr.heap.size wr u → Calls Tryz.prog 43 #[roA x] u fun e w' => e = .returned (.bool (At.validO x.c)) ∧ Below u.heap.size u w') := Lib.hid (fun u hu => valid_any x u (HO.below (BW.out.trans (Below.mono hu BW.out.size))) SZ.1 SZ.2)
      obtain ⟨A1, q1, v1, -⟩ := HO.rs
      obtain ⟨A2, q2, v2, -⟩ := HO.ts
      unfold roA at VD
      rw [v1, v2] at VD
      rw [v1] at c4
      rw [v2] at c5
      have BX := Lib.hid (show Below wr.heap.size wr (wr.alloc (.cells #[.string (mkB x.c.id), .int .i64 x.c.kind, .int .i64 x.c.x, .int .i64 x.c.y, .slice A1 x.c.refs.length q1, .slice A2 x.c.tags.length q2] 43)) from (Below.refl _ _).alloc (Nat.le_refl _) _)
      have XX := Lib.hid (heap_alloc_new wr (.cells #[.string (mkB x.c.id), .int .i64 x.c.kind, .int .i64 x.c.x, .int .i64 x.c.y, .slice A1 x.c.refs.length q1, .slice A2 x.c.tags.length q2] 43))
      clear HR SZ HO
      go_wp2_with fail
      refine (VD.out _ BX.out).mono ?_
      rintro e w1 ⟨rfl, b1⟩
      have B1 := Lib.hid (BX.out.trans (b1.mono BX.out.size))
      have B2 := Lib.hid (BL.out.trans (Below.mono B1.out BL.out.size))
      have x1c := (b1.block wr.heap.size (by simp)).trans XX.out
      have z0 := cell_of_row w1 wr.heap.size 0 _ _ _ x1c
      have zs : wr.heap.size < w1.heap.size := Nat.lt_of_lt_of_le (by simp) b1.size
      simp at z0
      clear b1 x1c XX BX VD B1 c0 c1 c2 c3 c4 c5
      cases hV : At.validO x.c
      · have RF : Hid (R = false) := Lib.hid (by rw [HD.out, hV]; rfl)
        clear HD
        go_wp2_with fail
        go_ret
        exact ⟨by rw [RF.out]; rfl, HB.out.trans (Below.mono B2.out HB.out.size)⟩
      · rcases lt_facts x.c.id last with ⟨f1, f2, f3⟩ | ⟨f1, f2, f3⟩ | ⟨f1, f2, f3⟩
        · have HD2 : Hid (R = (At.validFrom x.c.id (cts (l.drop (k + 1))) && true)) := Lib.hid (by rw [HD.out, hV, f1]; rfl)
          clear HD f1
          go_wp2_with fail
          exact ⟨⟨k + 1, x.c.id, by omega, by go_num, rfl, ⟨_, rfl⟩, HD2, B2⟩, by simp [intOf]; omega⟩
        all_goals
          have RF : Hid (R = false) := Lib.hid (by rw [HD.out, hV, f1]; rfl)
          clear HD f1
          go_wp2_with fail
          go_ret
          exact ⟨by rw [RF.out]; rfl, HB.out.trans (Below.mono B2.out HB.out.size)⟩
    · have d1 : ¬ (k : Int) < (n : Int) := by omega
      have RT : Hid (R = true) := Lib.hid (by
        rw [HR.out, List.drop_eq_nil_of_le (by rw [← HN.out]; omega)]; rfl)
      have y0 := cell_of_row wr w.heap.size 0 _ _ _ ((BL.out.block _ (by omega)).trans HX.out)
      simp at y0
      have d3 : (n : Int) ≤ 1000000 := by omega
      clear HR
      go_wp2_with fail
      go_ret
      exact ⟨by rw [RT.out]; rfl, BW.out⟩
set_option maxHeartbeats 1000000 in
theorem valid1_any (A : Option Addr) (c : Nat) (l : List RO) (n : Nat) (w : World) (hn : n = l.length) (h : Ms w A l) :
    Calls Tryz.prog 87 #[.agg #[.slice A n c]] w fun e w' => e = .returned (.bool (!At.validM (cts l))) ∧ Below w.heap.size w w' := by
  have BX := Lib.hid (show Below w.heap.size w (w.alloc (.cells #[.slice A n c] 24)) from (Below.refl _ _).alloc (Nat.le_refl _) _)
  have VD := Lib.hid (avalid_any A c l n _ hn (h.below BX.out))
  generalize At.validM (cts l) = R at *
  clear h hn
  go_enter Tryz.func87, Tryz.ntmps87
  go_wp2_with fail
  refine VD.out.mono ?_
  rintro e w1 ⟨rfl, b1⟩
  have B1 := Lib.hid (BX.out.trans (b1.mono BX.out.size))
  clear b1
  go_wp2_with fail
  go_ret
  exact ⟨rfl, B1.out⟩
/-- a map as a value -/
structure MV where
  A : Option Addr
  c : Nat
  l : List RO
def mvC (ms : List MV) : List Value := ms.map fun m => .slice m.A m.l.length m.c
def allV (ms : List MV) : Bool := ms.all fun m => At.validM (cts m.l)
def MIdx (R : Bool) (e : Ending) : Prop := ∃ i : Int, e = .returned (.int .i64 i) ∧ decide (0 ≤ i) = !R
set_option maxHeartbeats 1000000 in
set_option maxRecDepth 100000 in
theorem idxm_any (A : Option Addr) (n c : Nat) (ms : List MV) (w : World) (hn : n = ms.length) (hl : n ≤ 100) (h : Rd w A (mvC ms)) (hm : ∀ m ∈ ms, Ms w m.A m.l) :
    Calls Tryz.prog 115 #[.slice A n c, .func (.func 87) #[] #[]] w fun e w' => MIdx (allV ms) e ∧ Below w.heap.size w w' := by
  have H := Lib.hid h
  have HM := Lib.hid hm
  have HN := Lib.hid hn
  clear h hn hm
  obtain ⟨R, hR⟩ : ∃ R, allV ms = R := ⟨_, rfl⟩
  have HR : Hid (R = allV (ms.drop 0)) := Lib.hid hR.symm
  rw [hR]
  clear hR
  go_enter Tryz.func115, Tryz.ntmps115
  go_wp2_with fail
  go_loopw [8] (fun s8 wr => ∃ k : Nat, k ≤ n ∧ s8 = .int .i64 (k : Int) ∧ Hid (R = allV (ms.drop k)) ∧ Hid (Below w.heap.size w wr)) (fun i _ => n - (intOf i).toNat)
  case atStart => exact ⟨0, Nat.zero_le _, rfl, HR, Lib.hid (Below.refl _ _)⟩
  case round =>
    clear HR
    obtain ⟨k, hkn, rfl, HR, BL⟩ := hrel
    by_cases hlt : k < n
    · have hkl : k < ms.length := by rw [← HN.out]; exact hlt
      have d1 : (k : Int) < (n : Int) := by omega
      have d2 : (0 : Int) ≤ (k : Int) := by omega
      obtain ⟨b, off, rfl, hbz, c0⟩ := (H.out.below BL.out).map_at (f := fun m : MV => Value.slice m.A m.l.length m.c) hkl
      have WC := Lib.hid (valid1_any ms[k].A ms[k].c ms[k].l ms[k].l.length wr rfl ((HM.out _ (List.getElem_mem hkl)).below BL.out))
      have RK : Hid (R = (At.validM (cts ms[k].l) && allV (ms.drop (k + 1)))) := Lib.hid (by rw [HR.out, List.drop_eq_getElem_cons hkl]; rfl)
      clear HR
      generalize ms[k] = m at *
      go_wp2_with fail
      refine WC.out.mono ?_
      rintro e w1 ⟨rfl, b1⟩
      have B1 := Lib.hid (BL.out.trans (b1.mono BL.out.size))
      clear b1 WC BL
      cases hv : At.validM (cts m.l)
      · have RF : Hid (R = false) := Lib.hid (by rw [RK.out, hv]; rfl)
        clear RK
        go_wp2_with fail
        go_ret
        exact ⟨⟨(k : Int), rfl, by rw [RF.out, decide_eq_true d2]; rfl⟩, B1.out⟩
      · have R2 : Hid (R = allV (ms.drop (k + 1))) := Lib.hid (by rw [RK.out, hv]; rfl)
        clear RK
        go_wp2_with fail
        exact ⟨⟨k + 1, by omega, by go_num, R2, B1⟩, by simp [intOf]; omega⟩
    · have d1 : ¬ (k : Int) < (n : Int) := by omega
      have RT : Hid (R = true) := Lib.hid (by rw [HR.out, List.drop_eq_nil_of_le (by rw [← HN.out]; omega)]; rfl)
      clear HR
      go_wp2_with fail
      go_ret
      exact ⟨⟨-1, rfl, by rw [RT.out]; rfl⟩, BL.out⟩
set_option maxHeartbeats 1000000 in
theorem valids_any (A : Option Addr) (n c : Nat) (ms : List MV) (w : World) (hn : n = ms.length) (hl : n ≤ 100) (h : Rd w A (mvC ms)) (hm : ∀ m ∈ ms, Ms w m.A m.l) :
    Calls Tryz.prog 48 #[.slice A n c] w fun e w' => e = .returned (.bool (allV ms)) ∧ Below w.heap.size w w' := by
  have HF : Hid (Calls Tryz.prog 86 #[.slice A n c, .func (.func 87) #[] #[]] w fun e w' => e = .returned (.bool (!allV ms)) ∧ Below w.heap.size w w') := Lib.hid (by
    have IX := Lib.hid (idxm_any A n c ms w hn hl h hm)
    generalize allV ms = R at *
    clear hn h hm
    go_enter Tryz.func86, Tryz.ntmps86
    go_wp2_with fail
    refine IX.out.mono ?_
    rintro e w1 ⟨⟨i, rfl, hi⟩, bt⟩
    have BT := Lib.hid bt
    clear bt IX
    cases R
    · have q : decide (0 ≤ i) = true := hi
      clear hi
      go_wp2_with fail
      go_ret
      exact ⟨rfl, BT.out⟩
    · have q : decide (0 ≤ i) = false := hi
      clear hi
      go_wp2_with fail
      go_ret
      exact ⟨rfl, BT.out⟩)
  generalize allV ms = R at *
  clear hn h hm
  go_enter Tryz.func48, Tryz.ntmps48
  go_wp2_with fail
  refine HF.out.mono ?_
  rintro e w1 ⟨rfl, b1⟩
  have B1 := Lib.hid b1
  clear b1 HF
  cases R
  all_goals
    go_wp2_with fail
    go_ret
    exact ⟨rfl, B1.out⟩
end Go.Proofs.YtlejeelmlclnkaaGreatDoor
