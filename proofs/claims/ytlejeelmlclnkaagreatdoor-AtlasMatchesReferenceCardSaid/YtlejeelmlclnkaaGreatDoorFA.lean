/- WALKS: ref12.Valid, Find (printed by gen_fa.py). | WALKS: ref12.Without (printed by gen_fb.py). | WALKS: ref12.With (printed by gen_fc.py). | PLAIN LAWS OF THE STATEMENTS ABOUT MAPS: putting, finding. | WALKS: ref12.Drop, Put, Digest, In, Refers. | WALKS: ref12.Refers, Points. | WALKS: ref12.side, FewDeltas. -/
import Derived.Test.YtlejeelmlclnkaaGreatDoorEA
import Derived.Test.YtlejeelmlclnkaaGreatDoorBK
import Derived.Test.YtlejeelmlclnkaaGreatDoorBP
import Derived.Test.YtlejeelmlclnkaaGreatDoorDA
import Derived.Test.YtlejeelmlclnkaaGreatDoorAR
import Derived.Test.YtlejeelmlclnkaaGreatDoorBR
import Derived.Test.YtlejeelmlclnkaaGreatDoorCC
import Derived.Test.YtlejeelmlclnkaaGreatDoorWD
set_option linter.unusedSimpArgs false
set_option linter.unusedVariables false
namespace Go.Proofs.YtlejeelmlclnkaaGreatDoor
open Go.RowKit

def lastO (l : List RO) (k : Nat) : Tx := if k = 0 then [] else ((cts l)[k - 1]?.map (·.id)).getD []
theorem lastO_succ {l : List RO} {k : Nat} (h : k < l.length) : lastO l (k + 1) = l[k].c.id := by
  unfold lastO
  rw [if_neg (by omega), Nat.add_sub_cancel, List.getElem?_eq_getElem (by rw [cts_len]; exact h)]
  simp [cts]
set_option maxHeartbeats 8000000 in
set_option maxRecDepth 100000 in
theorem rvalidm_any (A : Option Addr) (c : Nat) (l : List RO) (n : Nat) (w : World) (hn : n = l.length) (h : Ms w A l) :
    Calls Tryz.prog 35 #[.agg #[.slice A n c]] w fun e w' => e = .returned (.bool (At.validM (cts l))) ∧ Below w.heap.size w w' := by
  have H := Lib.hid h
  have HN := Lib.hid hn
  have hl : n ≤ 100000 := by rw [hn]; exact h.len
  clear h hn
  obtain ⟨R, hR⟩ : ∃ R, At.validM (cts l) = R := ⟨_, rfl⟩
  have HR : Hid (R = At.validFrom (lastO l 0) (cts (l.drop 0))) := Lib.hid (by rw [← hR]; unfold At.validM; rw [decide_eq_true (by rw [cts_len, ← HN.out]; omega), Bool.and_true]; rfl)
  rw [hR]
  clear hR
  obtain ⟨W, hW⟩ : ∃ W, W = w.alloc (.cells #[.slice A n c] 24) := ⟨_, rfl⟩
  have HB : Hid (Below w.heap.size w W) := Lib.hid (by rw [hW]; exact (Below.refl _ _).alloc (Nat.le_refl _) _)
  have HX : Hid (W.heap[w.heap.size]? = some (.cells #[.slice A n c] 24 (0, 0))) := Lib.hid (by rw [hW]; exact heap_alloc_new w _)
  have HZ : W.heap.size = w.heap.size + 1 := by rw [hW]; simp
  have K0 : ∀ u, OldB W u → u.cell? ⟨w.heap.size, 0, none⟩ = some (.slice A n c) := fun u hu => by have := cell_of_row u w.heap.size 0 _ _ _ ((hu.block _ (by omega)).trans HX.out); simpa using this
  have BU : Hid (∀ u, OldB W u → Below w.heap.size w u) := Lib.hid (fun u hu => HB.out.trans (Below.mono hu HB.out.size))
  have g1 : decide ((1000000 : Int) < (n : Int)) = false := by simp; omega
  have OW : Hid (OldB W W) := Lib.hid (Below.refl _ _)
  clear HX HZ HB
  have k0 := K0 W OW.out
  go_enter Tryz.func35, Tryz.ntmps35
  go_upto_region 1 with fail
  rw [← hW]
  clear hW
  go_wp2_with fail
  clear g1 k0
  go_loopw [3] (fun s3 wr => ∃ k : Nat, k ≤ n ∧ s3 = .int .i64 (k : Int) ∧ Hid (R = At.validFrom (lastO l k) (cts (l.drop k))) ∧ Hid (OldB W wr)) (fun i _ => n - (intOf i).toNat)
  case atStart => exact ⟨0, Nat.zero_le _, rfl, HR, OW⟩
  case round =>
    clear HR OW
    obtain ⟨k, hk, rfl, HR, OW⟩ := hrel
    have k0 := K0 wr OW.out
    by_cases hlt : k < n
    · have hkl : k < l.length := by rw [← HN.out]; exact hlt
      have d1 : (k : Int) < (n : Int) := by omega
      have d2 : (0 : Int) ≤ (k : Int) := by omega
      have k8 : IntKind.i64.wrap ((k : Int) + 1) = (k : Int) + 1 := IntWalk.i64_in _ (by omega)
      obtain ⟨b, off, rfl, hb, c0, c1, c2, c3, c4, c5⟩ := ros_at (H.out.rd.below (BU.out _ OW.out)) hkl
      have HO := Lib.hid (H.out.ob l[k] (List.getElem_mem hkl))
      have SZ := (H.out.sz l[k] (List.getElem_mem hkl)).1
      have TB : Hid ((At.validO l[k].c && At.lt (lastO l k) l[k].c.id) = false → R = false) := Lib.hid (fun h => by rw [HR.out, validFrom_drop _ _ hkl, h]; rfl)
      have TG : Hid ((At.validO l[k].c && At.lt (lastO l k) l[k].c.id) = true → R = At.validFrom (lastO l (k + 1)) (cts (l.drop (k + 1)))) := Lib.hid (fun h => by rw [HR.out, validFrom_drop _ _ hkl, h, lastO_succ hkl]; rfl)
      have VN : Hid (At.validO l[k].c = true → l[k].c.id ≠ []) := Lib.hid At.valid_id
      have LT0 : Hid (k = 0 → lastO l k = []) := Lib.hid (fun h => by rw [h]; rfl)
      have LTS : Hid (∀ j, k = j + 1 → wr.cell? ⟨b, off + j * 6, none⟩ = some (.string (mkB (lastO l k)))) := Lib.hid (fun j h => by
        have hk1 : j < l.length := by omega
        obtain ⟨b', off', e', hb', c0', -⟩ := ros_at (H.out.rd.below (BU.out _ OW.out)) hk1
        obtain ⟨rfl, rfl⟩ : b = b' ∧ off = off' := by injection e' with e'; injection e' with e1 e2; exact ⟨e1, e2⟩
        subst h
        rw [lastO_succ hk1]; exact c0')
      have VD : Hid (∀ u, OldB wr u → Calls Tryz.prog 67 #[roA l[k]] u fun e w' => e = .returned (.bool (At.validO l[k].c)) ∧ Below u.heap.size u w') := Lib.hid (fun u hu => rvalid_any l[k] u (HO.out.below (BU.out _ (OldB.then OW.out hu))) SZ)
      obtain ⟨A1, q1, v1, -⟩ := HO.out.rs
      obtain ⟨A2, q2, v2, -⟩ := HO.out.ts
      rw [v1] at c4
      rw [v2] at c5
      unfold roA at VD
      rw [v1, v2] at VD
      obtain ⟨last2, hl2⟩ : ∃ x, lastO l (k + 1) = x := ⟨_, rfl⟩
      have HL2 := Lib.hid hl2
      rw [hl2] at TG
      clear hl2 HO SZ v1 v2 HR
      have CC : Hid (∀ (p : Addr) (v : Value) u, OldB wr u → p.block = b → wr.cell? p = some v → u.cell? p = some v) := Lib.hid (fun p v u hu hp hv => (Below.cell (p := p) hu (by rw [hp]; exact hb)).trans hv)
      have k0 : ∀ u, OldB wr u → u.cell? ⟨w.heap.size, 0, none⟩ = some (.slice (some ⟨b, off, none⟩) n c) := fun u hu => K0 u (OldB.then OW.out hu)
      have f0 := fun u hu => CC.out _ _ u hu rfl c0
      have f1 := fun u hu => CC.out _ _ u hu rfl c1
      have f2 := fun u hu => CC.out _ _ u hu rfl c2
      have f3 := fun u hu => CC.out _ _ u hu rfl c3
      have f4 := fun u hu => CC.out _ _ u hu rfl c4
      have f5 := fun u hu => CC.out _ _ u hu rfl c5
      generalize lastO l k = last at *
      generalize l[k].c = x at *
      have t0 := mkB_tl last
      have t1 := mkB_tl x.id
      have kk := k0 wr (Below.refl _ _)
      cases hv : At.validO x
      · have RF := Lib.hid (TB.out (by rw [hv]; rfl))
        rw [hv] at VD
        clear TB TG LT0 LTS VN
        go_upto_region 6 with fail
        clear kk
        (refine wp_region_noPanic ?_; refine wp_region_held_drew (S := (OldB wr)) (by kernel_rfl) ?_ (fun hHeld => ?_); exact Below.drew (Below.refl _ _))
        (refine tkW 0 ?_; try simp only [gmS])
        (refine tkW 1 ?_; try simp only [gmS])
        (refine tkW 2 ?_; try simp only [gmS])
        (refine tkW 3 ?_; try simp only [gmS])
        (refine tkW 4 ?_; try simp only [gmS])
        (refine rdW 5 (fun K hK => ?_); go_simp)
        refine (VD.out _ hHeld).mono ?_
        rintro e u1 ⟨rfl, b1⟩
        (refine hK.out _ _ (OldB.then hHeld b1) (fun hHeld2 => ?_); clear hK K hHeld; have hHeld := hHeld2; clear hHeld2; try simp only [gmS])
        (refine tkW 6 ?_; try simp only [gmS])
        (refine tkW 7 ?_; try simp only [gmS])
        (refine skW 8 ?_; try simp only [gmS])
        (refine skW 9 ?_; try simp only [gmS])
        (refine skW 10 ?_; try simp only [gmS])
        (refine skW 11 ?_; try simp only [gmS])
        (refine skW 12 ?_; try simp only [gmS])
        (refine skW 13 ?_; try simp only [gmS])
        (refine skW 14 ?_; try simp only [gmS])
        (refine skW 15 ?_; try simp only [gmS])
        (refine skW 16 ?_; try simp only [gmS])
        (refine skW 17 ?_; try simp only [gmS])
        (refine skW 18 ?_; try simp only [gmS])
        (refine skW 19 ?_; try simp only [gmS])
        (refine skW 20 ?_; try simp only [gmS])
        (refine skW 21 ?_; try simp only [gmS])
        (refine skW 22 ?_; try simp only [gmS])
        (refine skW 23 ?_; try simp only [gmS])
        (refine skW 24 ?_; try simp only [gmS])
        (refine skW 25 ?_; try simp only [gmS])
        (refine tkW 26 ?_; try simp only [gmS])
        have O2 : Hid (OldB W u1) := Lib.hid (OldB.then OW.out hHeld)
        (refine wpAnyH_done (by kernel_rfl) ?_ _; refine NoPanic.normal ?_)
        clear hHeld b1 f0 f1 f2 f3 f4 f5 k0 VD CC
        go_wp2_with fail
        go_ret
        exact ⟨by rw [RF.out]; rfl, BU.out _ O2.out⟩
      · have ne := VN.out hv
        rw [hv] at VD
        cases k with
        | zero =>
          have e0 := LT0.out rfl
          have RG := Lib.hid (TG.out (by rw [hv, e0, At.nil_lt ne]; rfl))
          have g0 : decide ((0 : Int) < ((0 : Nat) : Int)) = false := by simp
          have d3 : (0 : Int) < (n : Int) := by omega
          simp only [Nat.zero_mul, Nat.add_zero] at f0 f1 f2 f3 f4 f5
          clear TB TG LT0 LTS VN ne
          go_upto_region 6 with fail
          clear kk
          (refine wp_region_noPanic ?_; refine wp_region_held_drew (S := (OldB wr)) (by kernel_rfl) ?_ (fun hHeld => ?_); exact Below.drew (Below.refl _ _))
          (refine tkW 0 ?_; try simp only [gmS])
          (refine tkW 1 ?_; try simp only [gmS])
          (refine tkW 2 ?_; try simp only [gmS])
          (refine tkW 3 ?_; try simp only [gmS])
          (refine tkW 4 ?_; try simp only [gmS])
          (refine rdW 5 (fun K hK => ?_); go_simp)
          refine (VD.out _ hHeld).mono ?_
          rintro e u1 ⟨rfl, b1⟩
          (refine hK.out _ _ (OldB.then hHeld b1) (fun hHeld2 => ?_); clear hK K hHeld; have hHeld := hHeld2; clear hHeld2; try simp only [gmS])
          (refine tkW 6 ?_; try simp only [gmS])
          (refine tkW 7 ?_; try simp only [gmS])
          (refine tkW 8 ?_; try simp only [gmS])
          (refine tkW 9 ?_; try simp only [gmS])
          (refine tkW 10 ?_; try simp only [gmS])
          (refine skW 11 ?_; try simp only [gmS])
          (refine skW 12 ?_; try simp only [gmS])
          (refine skW 13 ?_; try simp only [gmS])
          (refine skW 14 ?_; try simp only [gmS])
          (refine skW 15 ?_; try simp only [gmS])
          (refine skW 16 ?_; try simp only [gmS])
          (refine skW 17 ?_; try simp only [gmS])
          (refine skW 18 ?_; try simp only [gmS])
          (refine skW 19 ?_; try simp only [gmS])
          (refine skW 20 ?_; try simp only [gmS])
          (refine skW 21 ?_; try simp only [gmS])
          (refine skW 22 ?_; try simp only [gmS])
          (refine skW 23 ?_; try simp only [gmS])
          (refine skW 24 ?_; try simp only [gmS])
          (refine tkW 25 ?_; try simp only [gmS])
          (refine tkW 26 ?_; try simp only [gmS])
          have O2 : Hid (OldB W u1) := Lib.hid (OldB.then OW.out hHeld)
          (refine wpAnyH_done (by kernel_rfl) ?_ _; refine NoPanic.normal ?_)
          clear hHeld b1 f0 f1 f2 f3 f4 f5 k0 VD CC
          go_wp2_with fail
          exact ⟨⟨0 + 1, by omega, by go_num, Lib.hid (by rw [HL2.out]; exact RG.out), O2⟩, by simp [intOf]; omega⟩
        | succ j =>
          have cp := LTS.out j rfl
          have fp := fun u hu => CC.out _ _ u hu rfl cp
          have w1 : IntKind.i64.wrap (j : Int) = (j : Int) := IntWalk.i64_in _ (by omega)
          have g0 : decide ((0 : Int) < ((j + 1 : Nat) : Int)) = true := by simp
          have g1 : decide ((0 : Int) < (j : Int) + 1) = true := by first | (simp; done) | (simp; omega)
          have d3 : (j : Int) < (n : Int) := by omega
          have d4 : (0 : Int) ≤ (j : Int) := by omega
          have d5 : (0 : Int) ≤ (j : Int) + 1 := by omega
          clear LT0 LTS VN ne cp
          rcases lt_facts last x.id with ⟨p1, p2, p3⟩ | ⟨p1, p2, p3⟩ | ⟨p1, p2, p3⟩
          · have p4 : Op.bytesLess x.id last = true := p1
            have RF := Lib.hid (TB.out (by rw [show At.lt last x.id = false from p2]; simp))
            clear TB TG p1
            go_upto_region 6 with fail
            clear kk
            (refine wp_region_noPanic ?_; refine wp_region_held_drew (S := (OldB wr)) (by kernel_rfl) ?_ (fun hHeld => ?_); exact Below.drew (Below.refl _ _))
            (refine tkW 0 ?_; try simp only [gmS])
            (refine tkW 1 ?_; try simp only [gmS])
            (refine tkW 2 ?_; try simp only [gmS])
            (refine tkW 3 ?_; try simp only [gmS])
            (refine tkW 4 ?_; try simp only [gmS])
            (refine rdW 5 (fun K hK => ?_); go_simp)
            refine (VD.out _ hHeld).mono ?_
            rintro e u1 ⟨rfl, b1⟩
            (refine hK.out _ _ (OldB.then hHeld b1) (fun hHeld2 => ?_); clear hK K hHeld; have hHeld := hHeld2; clear hHeld2; try simp only [gmS])
            (refine tkW 6 ?_; try simp only [gmS])
            (refine tkW 7 ?_; try simp only [gmS])
            (refine tkW 8 ?_; try simp only [gmS])
            (refine tkW 9 ?_; try simp only [gmS])
            (refine tkW 10 ?_; try simp only [gmS])
            (refine tkW 11 ?_; try simp only [gmS])
            (refine tkW 12 ?_; try simp only [gmS])
            (refine tkW 13 ?_; try simp only [gmS])
            (refine tkW 14 ?_; try simp only [gmS])
            (refine tkW 15 ?_; try simp only [gmS])
            (refine tkW 16 ?_; try simp only [gmS])
            (refine tkW 17 ?_; try simp only [gmS])
            (refine tkW 18 ?_; try simp only [gmS])
            (refine tkW 19 ?_; try simp only [gmS])
            (refine tkW 20 ?_; try simp only [gmS])
            (refine tkW 21 ?_; try simp only [gmS])
            (refine tkW 22 ?_; try simp only [gmS])
            (refine tkW 23 ?_; try simp only [gmS])
            (refine tkW 24 ?_; try simp only [gmS])
            (refine tkW 25 ?_; try simp only [gmS])
            (refine tkW 26 ?_; try simp only [gmS])
            have O2 : Hid (OldB W u1) := Lib.hid (OldB.then OW.out hHeld)
            (refine wpAnyH_done (by kernel_rfl) ?_ _; refine NoPanic.normal ?_)
            clear hHeld b1 f0 f1 f2 f3 f4 f5 k0 VD CC
            clear fp
            go_wp2_with fail
            go_ret
            exact ⟨by rw [RF.out]; rfl, BU.out _ O2.out⟩
          · have p4 : Op.bytesLess x.id last = false := p1
            have RG := Lib.hid (TG.out (by rw [hv, show At.lt last x.id = true from p2]; rfl))
            clear TB TG p1
            go_upto_region 6 with fail
            clear kk
            (refine wp_region_noPanic ?_; refine wp_region_held_drew (S := (OldB wr)) (by kernel_rfl) ?_ (fun hHeld => ?_); exact Below.drew (Below.refl _ _))
            (refine tkW 0 ?_; try simp only [gmS])
            (refine tkW 1 ?_; try simp only [gmS])
            (refine tkW 2 ?_; try simp only [gmS])
            (refine tkW 3 ?_; try simp only [gmS])
            (refine tkW 4 ?_; try simp only [gmS])
            (refine rdW 5 (fun K hK => ?_); go_simp)
            refine (VD.out _ hHeld).mono ?_
            rintro e u1 ⟨rfl, b1⟩
            (refine hK.out _ _ (OldB.then hHeld b1) (fun hHeld2 => ?_); clear hK K hHeld; have hHeld := hHeld2; clear hHeld2; try simp only [gmS])
            (refine tkW 6 ?_; try simp only [gmS])
            (refine tkW 7 ?_; try simp only [gmS])
            (refine tkW 8 ?_; try simp only [gmS])
            (refine tkW 9 ?_; try simp only [gmS])
            (refine tkW 10 ?_; try simp only [gmS])
            (refine tkW 11 ?_; try simp only [gmS])
            (refine tkW 12 ?_; try simp only [gmS])
            (refine tkW 13 ?_; try simp only [gmS])
            (refine tkW 14 ?_; try simp only [gmS])
            (refine tkW 15 ?_; try simp only [gmS])
            (refine tkW 16 ?_; try simp only [gmS])
            (refine tkW 17 ?_; try simp only [gmS])
            (refine tkW 18 ?_; try simp only [gmS])
            (refine tkW 19 ?_; try simp only [gmS])
            (refine tkW 20 ?_; try simp only [gmS])
            (refine tkW 21 ?_; try simp only [gmS])
            (refine tkW 22 ?_; try simp only [gmS])
            (refine tkW 23 ?_; try simp only [gmS])
            (refine tkW 24 ?_; try simp only [gmS])
            (refine tkW 25 ?_; try simp only [gmS])
            (refine tkW 26 ?_; try simp only [gmS])
            have O2 : Hid (OldB W u1) := Lib.hid (OldB.then OW.out hHeld)
            (refine wpAnyH_done (by kernel_rfl) ?_ _; refine NoPanic.normal ?_)
            clear hHeld b1 f0 f1 f2 f3 f4 f5 k0 VD CC
            clear fp
            go_wp2_with fail
            exact ⟨⟨j + 1 + 1, by omega, by go_num, Lib.hid (by rw [HL2.out]; exact RG.out), O2⟩, by simp [intOf]; omega⟩
          · have p4 : Op.bytesLess x.id last = false := p1
            have RF := Lib.hid (TB.out (by rw [show At.lt last x.id = false from p2]; simp))
            clear TB TG p1
            go_upto_region 6 with fail
            clear kk
            (refine wp_region_noPanic ?_; refine wp_region_held_drew (S := (OldB wr)) (by kernel_rfl) ?_ (fun hHeld => ?_); exact Below.drew (Below.refl _ _))
            (refine tkW 0 ?_; try simp only [gmS])
            (refine tkW 1 ?_; try simp only [gmS])
            (refine tkW 2 ?_; try simp only [gmS])
            (refine tkW 3 ?_; try simp only [gmS])
            (refine tkW 4 ?_; try simp only [gmS])
            (refine rdW 5 (fun K hK => ?_); go_simp)
            refine (VD.out _ hHeld).mono ?_
            rintro e u1 ⟨rfl, b1⟩
            (refine hK.out _ _ (OldB.then hHeld b1) (fun hHeld2 => ?_); clear hK K hHeld; have hHeld := hHeld2; clear hHeld2; try simp only [gmS])
            (refine tkW 6 ?_; try simp only [gmS])
            (refine tkW 7 ?_; try simp only [gmS])
            (refine tkW 8 ?_; try simp only [gmS])
            (refine tkW 9 ?_; try simp only [gmS])
            (refine tkW 10 ?_; try simp only [gmS])
            (refine tkW 11 ?_; try simp only [gmS])
            (refine tkW 12 ?_; try simp only [gmS])
            (refine tkW 13 ?_; try simp only [gmS])
            (refine tkW 14 ?_; try simp only [gmS])
            (refine tkW 15 ?_; try simp only [gmS])
            (refine tkW 16 ?_; try simp only [gmS])
            (refine tkW 17 ?_; try simp only [gmS])
            (refine tkW 18 ?_; try simp only [gmS])
            (refine tkW 19 ?_; try simp only [gmS])
            (refine tkW 20 ?_; try simp only [gmS])
            (refine tkW 21 ?_; try simp only [gmS])
            (refine tkW 22 ?_; try simp only [gmS])
            (refine tkW 23 ?_; try simp only [gmS])
            (refine tkW 24 ?_; try simp only [gmS])
            (refine tkW 25 ?_; try simp only [gmS])
            (refine tkW 26 ?_; try simp only [gmS])
            have O2 : Hid (OldB W u1) := Lib.hid (OldB.then OW.out hHeld)
            (refine wpAnyH_done (by kernel_rfl) ?_ _; refine NoPanic.normal ?_)
            clear hHeld b1 f0 f1 f2 f3 f4 f5 k0 VD CC
            clear fp
            go_wp2_with fail
            go_ret
            exact ⟨by rw [RF.out]; rfl, BU.out _ O2.out⟩
    · obtain rfl : k = n := by omega
      have dk : decide ((k : Int) < (k : Int)) = false := by simp
      have RT : Hid (R = true) := Lib.hid (by rw [HR.out, List.drop_of_length_le (by rw [← HN.out]; exact Nat.le_refl _)]; rfl)
      clear hlt HR
      go_wp2_with fail
      go_ret
      exact ⟨by rw [RT.out]; rfl, BU.out _ OW.out⟩
theorem rfindR_none {l : List At.Ob} {id : Tx} (h : ∀ i (h : i < l.length), l[i].id ≠ id) : findR l id = -1 := by
  unfold findR
  have : l.findIdx? (fun o => decide (o.id = id)) = none := by
    rw [List.findIdx?_eq_none_iff]
    intro o ho
    obtain ⟨i, hi, rfl⟩ := List.mem_iff_getElem.1 ho
    simpa using h i hi
  rw [this]
set_option maxHeartbeats 4000000 in
set_option maxRecDepth 100000 in
theorem rfind_any (A : Option Addr) (c : Nat) (l : List RO) (id : Tx) (n : Nat) (w : World) (hn : n = l.length) (h : Ms w A l) :
    Calls Tryz.prog 37 #[.agg #[.slice A n c], .string (mkB id)] w fun e w' => e = .returned (.int .i64 (findR (cts l) id)) ∧ Below w.heap.size w w' := by
  have H := Lib.hid h
  have HN := Lib.hid hn
  have hl : n ≤ 100000 := by rw [hn]; exact h.len
  clear h hn
  obtain ⟨R, hR⟩ : ∃ R, findR (cts l) id = R := ⟨_, rfl⟩
  have HR := Lib.hid hR.symm
  rw [hR]
  clear hR
  obtain ⟨W, hW⟩ : ∃ W, W = w.alloc (.cells #[.slice A n c] 24) := ⟨_, rfl⟩
  have HB : Hid (Below w.heap.size w W) := Lib.hid (by rw [hW]; exact (Below.refl _ _).alloc (Nat.le_refl _) _)
  have HX : Hid (W.heap[w.heap.size]? = some (.cells #[.slice A n c] 24 (0, 0))) := Lib.hid (by rw [hW]; exact heap_alloc_new w _)
  have k0 := cell_of_row W w.heap.size 0 _ _ _ HX.out
  simp at k0
  have RDW := Lib.hid (H.out.rd.below HB.out)
  have t1 := mkB_tl id
  go_enter Tryz.func37, Tryz.ntmps37
  go_upto_region 1 with fail
  rw [← hW]
  clear hW HX
  go_wp2_with fail
  go_loop [5] (fun s5 => ∃ k : Nat, k ≤ n ∧ s5 = .int .i64 (k : Int) ∧ Hid (∀ i (h : i < (cts l).length), i < k → (cts l)[i].id ≠ id)) (fun i => n - (intOf i).toNat)
  case atStart => exact ⟨0, Nat.zero_le _, rfl, Lib.hid (fun i _ h => absurd h (Nat.not_lt_zero _))⟩
  case round =>
    obtain ⟨k, hk, rfl, INV⟩ := hrel
    by_cases hlt : k < n
    · have hkl : k < l.length := by rw [← HN.out]; exact hlt
      have hkc : k < (cts l).length := by rw [cts_len]; exact hkl
      have d1 : (k : Int) < (n : Int) := by omega
      have d2 : (0 : Int) ≤ (k : Int) := by omega
      have k8 : IntKind.i64.wrap ((k : Int) + 1) = (k : Int) + 1 := IntWalk.i64_in _ (by omega)
      obtain ⟨b, off, rfl, hb, c0, -⟩ := ros_at RDW.out hkl
      have EC : Hid ((cts l)[k].id = l[k].c.id) := Lib.hid (by simp [cts])
      have NX : Hid (l[k].c.id ≠ id → ∀ i (h : i < (cts l).length), i < k + 1 → (cts l)[i].id ≠ id) := Lib.hid (fun hc i hi hik => by
        rcases Nat.lt_succ_iff_lt_or_eq.1 hik with h1 | h1
        · exact INV.out i hi h1
        · subst h1; rw [EC.out]; exact hc)
      have FD : Hid (l[k].c.id = id → R = (k : Int)) := Lib.hid (fun h => by rw [HR.out]; exact findR_at hkc (by rw [EC.out]; exact h) (fun i hi hik => INV.out i hi hik))
      clear EC INV
      generalize l[k].c.id = x at *
      have t0 := mkB_tl x
      by_cases e : x = id
      · have ee : (x == id) = true := by rw [e]; simp
        have RT := Lib.hid (FD.out e)
        clear e FD NX
        go_wp2_with fail
        go_ret
        exact ⟨by rw [RT.out]; rfl, HB.out⟩
      · have ee : (x == id) = false := by simpa using e
        have NX2 := Lib.hid (NX.out e)
        clear e FD NX
        go_wp2_with fail
        go_round
        case rel => exact ⟨k + 1, by omega, by go_num, NX2⟩
        case measure => simp [intOf]; omega
    · obtain rfl : k = n := by omega
      have dk : decide ((k : Int) < (k : Int)) = false := by simp
      have RT : Hid (R = -1) := Lib.hid (by rw [HR.out]; exact rfindR_none (fun i hi => INV.out i hi (by rw [cts_len, ← HN.out] at hi; exact hi)))
      clear hlt INV
      go_wp2_with fail
      go_ret
      exact ⟨by rw [RT.out]; rfl, HB.out⟩
end Go.Proofs.YtlejeelmlclnkaaGreatDoor
namespace Go.Proofs.YtlejeelmlclnkaaGreatDoor
open Go.RowKit

/-- a map comes back -/
def MapP (w : World) (L : List At.Ob) (e : Ending) (w' : World) : Prop :=
  ∃ (A : Option Addr) (c : Nat) (R : List RO), e = .returned (.agg #[.slice A R.length c]) ∧ Ms w' A R ∧ cts R = L ∧ R.length ≤ c ∧ Below w.heap.size w w'
theorem MapE.toP {w w' : World} {L : List At.Ob} {x : Value} {k : Nat} (h : MapE w (L, k) (.returned (.tuple #[x, .int .i64 (k : Int)])) w') : MapP w L (.returned x) w' := by
  obtain ⟨A, c, R, e, h2, h3, h4, h5⟩ := h
  refine ⟨A, c, R, ?_, h2, h3, h4, h5⟩
  injection e with e
  injection e with e
  have := congrArg (fun a => a[0]?) e
  simp at this
  rw [this]
def woF (l : List At.Ob) (id : Tx) : List At.Ob := l.filter fun o => decide (o.id ≠ id)
def woR (l : List RO) (id : Tx) : List RO := l.filter fun r => decide (r.c.id ≠ id)
theorem cts_wo (l : List RO) (id : Tx) : cts (woR l id) = woF (cts l) id := by
  unfold cts woR woF
  rw [List.filter_map]; rfl
theorem woR_take {l : List RO} {id : Tx} {k : Nat} (h : k < l.length) : woR (l.take (k + 1)) id = woR (l.take k) id ++ (if l[k].c.id = id then [] else [l[k]]) := by
  rw [List.take_succ_eq_append_getElem h]
  unfold woR
  rw [List.filter_append]
  congr 1
  by_cases e : l[k].c.id = id <;> simp [e]
theorem woR_len (l : List RO) (id : Tx) (k : Nat) : (woR (l.take k) id).length ≤ k := Nat.le_trans (List.length_filter_le _ _) (by rw [List.length_take]; omega)
theorem ButT.then {X : Nat → Prop} {w u u' : World} (h : But X w u) (hb : Below w.heap.size u u') : But X w u' :=
  ⟨hb.os.trans h.os, hb.tape.trans h.tape, hb.output.trans h.output, Nat.le_trans h.size hb.size, fun k hk hx => (hb.block k hk).trans (h.block k hk hx)⟩
theorem one_map {w : World} {g : Nat} {v u : Value} (h : w.heap[g]? = some (.cells #[v] 24 (0, 0))) : (w.setCell ⟨g, 0, none⟩ u).heap[g]? = some (.cells #[u] 24 (0, 0)) := one_setCell h
set_option maxHeartbeats 8000000 in
set_option maxRecDepth 100000 in
theorem rwithout_any (A : Option Addr) (n c : Nat) (l : List RO) (id : Tx) (w : World) (hn : n = l.length) (h : Ms w A l) :
    Calls Tryz.prog 70 #[.agg #[.slice A n c], .string (mkB id)] w (MapP w (woF (cts l) id)) := by
  have H := Lib.hid h
  have HN := Lib.hid hn
  have hl : n ≤ 100000 := by rw [hn]; exact h.len
  clear h hn
  obtain ⟨X, hX⟩ : ∃ X, X = ((w.alloc (.cells #[.slice A n c] 24)).alloc (.cells #[.slice none 0 0] 24)).alloc (.cells #[.slice none 0 0] 24) := ⟨_, rfl⟩
  obtain ⟨g, hg⟩ : ∃ g, g = w.heap.size := ⟨_, rfl⟩
  have XZ : X.heap.size = g + 3 := by rw [hX, hg]; simp
  have X0 : X.heap[g]? = some (.cells #[.slice A n c] 24 (0, 0)) := by rw [hX, hg]; exact (alloc_old _ _ (by simp; omega)).trans ((alloc_old _ _ (by simp)).trans (heap_alloc_new w _))
  have X1 : X.heap[g + 1]? = some (.cells #[.slice none 0 0] 24 (0, 0)) := by rw [hX, hg]; exact (alloc_old _ _ (by simp)).trans (alloc_new' _ _ _ (by simp))
  have X2 : Hid (X.heap[g + 2]? = some (.cells #[.slice none 0 0] 24 (0, 0))) := Lib.hid (by rw [hX, hg]; exact alloc_new' _ _ _ (by simp))
  have BX : Hid (Below w.heap.size w X) := Lib.hid (by rw [hX]; exact (((Below.refl _ _).alloc (Nat.le_refl _) _).alloc (by simp) _).alloc (by simp; omega) _)
  have BU : Hid (∀ u, But (· = g + 2) X u → Below w.heap.size w u) := Lib.hid (fun u hu => BX.out.trans (hu.below (by omega) (fun k hk => by omega)))
  have K0 : Hid (∀ u, But (· = g + 2) X u → u.cell? ⟨g, 0, none⟩ = some (.slice A n c)) := Lib.hid (fun u hu => hu.c (by omega) (by have := cell_of_row X g 0 _ _ _ X0; simpa using this))
  have R1 : Hid (∀ u, But (· = g + 2) X u → u.heap[g + 1]? = some (.cells #[.slice none 0 0] 24 (0, 0))) := Lib.hid (fun u hu => (hu.block _ (by omega) (by omega)).trans X1)
  have RW := Lib.hid (H.out.rd.below BX.out)
  have ST : Hid (X.ownsRow (g + 3) 43 6 (.slice none 0 0) (woR (l.take 0) id).length (rosC (woR (l.take 0) id))) := Lib.hid (World.ownsRow_nil _ _ _ _)
  have OB : Hid (But (· = g + 2) X X) := Lib.hid (But.refl _ _)
  have t1 := mkB_tl id
  have hgw : w.heap.size ≤ g := by omega
  have k0 := K0.out X OB.out
  have k2 := cell_of_row X (g + 2) 0 _ _ _ X2.out
  simp at k2
  clear X0 X1
  go_enter Tryz.func70, Tryz.ntmps70
  go_upto_region 2 with fail
  rw [← hX]
  clear hX
  rw [← hg]
  have HG := Lib.hid hg
  clear hg
  go_wp2_with fail
  clear k0 k2
  go_loopw [6] (fun s6 wr => ∃ (k : Nat) (v : Value), k ≤ n ∧ s6 = .int .i64 (k : Int) ∧ Hid (wr.ownsRow (g + 3) 43 6 v (woR (l.take k) id).length (rosC (woR (l.take k) id))) ∧ Hid (wr.heap[g + 2]? = some (.cells #[v] 24 (0, 0))) ∧ Hid (But (· = g + 2) X wr)) (fun i _ => n - (intOf i).toNat)
  case atStart => exact ⟨0, _, Nat.zero_le _, rfl, ST, X2, OB⟩
  case round =>
    clear ST OB X2
    obtain ⟨k, v, hk, rfl, OW, BXX, OB⟩ := hrel
    obtain ⟨A7, c7, hv7, -⟩ := own_sl OW.out
    subst hv7
    have k0 := K0.out wr OB.out
    have LE := woR_len l id k
    by_cases hlt : k < n
    · have hkl : k < l.length := by rw [← HN.out]; exact hlt
      have d1 : (k : Int) < (n : Int) := by omega
      have d2 : (0 : Int) ≤ (k : Int) := by omega
      have k8 : IntKind.i64.wrap ((k : Int) + 1) = (k : Int) + 1 := IntWalk.i64_in _ (by omega)
      obtain ⟨b, off, rfl, hb, c0, c1, c2, c3, c4, c5⟩ := ros_at RW.out hkl
      have HO := H.out.ob l[k] (List.getElem_mem hkl)
      obtain ⟨b', off', e', hbw, -⟩ := ros_at H.out.rd hkl
      obtain ⟨rfl, rfl⟩ : b = b' ∧ off = off' := by injection e' with e'; injection e' with e1 e2; exact ⟨e1, e2⟩
      have hne : ¬ b = g + 2 := by omega
      obtain ⟨A1, q1, v1, -⟩ := HO.rs
      obtain ⟨A2, q2, v2, -⟩ := HO.ts
      have TK := Lib.hid (woR_take (id := id) hkl)
      have RE : Hid (rosC [l[k]] = [.string (mkB l[k].c.id), .int .i64 l[k].c.kind, .int .i64 l[k].c.x, .int .i64 l[k].c.y, .slice A1 l[k].c.refs.length q1, .slice A2 l[k].c.tags.length q2]) := Lib.hid (by unfold rosC; rw [List.flatMap_singleton]; unfold roC; rw [v1, v2])
      rw [v1] at c4
      rw [v2] at c5
      have f0 := fun u (hu : But (· = g + 2) X u) => hu.c hne c0
      have f1 := fun u (hu : But (· = g + 2) X u) => hu.c hne c1
      have f2 := fun u (hu : But (· = g + 2) X u) => hu.c hne c2
      have f3 := fun u (hu : But (· = g + 2) X u) => hu.c hne c3
      have f4 := fun u (hu : But (· = g + 2) X u) => hu.c hne c4
      have f5 := fun u (hu : But (· = g + 2) X u) => hu.c hne c5
      have z0 := f0 wr OB.out
      clear c0 c1 c2 c3 c4 c5 HO v1 v2 e' hne
      have t0 := mkB_tl l[k].c.id
      by_cases e : l[k].c.id = id
      · have ee : (l[k].c.id != id) = false := by simpa using e
        have ee2 : (l[k].c.id == id) = true := by simpa using e
        rw [if_pos e, List.append_nil] at TK
        clear e f0 f1 f2 f3 f4 f5 RE
        go_wp2_with fail
        exact ⟨⟨k + 1, _, by omega, by go_num, Lib.hid (by rw [TK.out]; exact OW.out), BXX, OB⟩, by simp [intOf]; omega⟩
      · have ee : (l[k].c.id != id) = true := by simpa using e
        have ee2 : (l[k].c.id == id) = false := by simpa using e
        rw [if_neg e] at TK
        have RE2 : Hid (rosC (woR (l.take (k + 1)) id) = rosC (woR (l.take k) id) ++ [.string (mkB l[k].c.id), .int .i64 l[k].c.kind, .int .i64 l[k].c.x, .int .i64 l[k].c.y, .slice A1 l[k].c.refs.length q1, .slice A2 l[k].c.tags.length q2]) := Lib.hid (by rw [TK.out, rosC_app, RE.out])
        have LN : Hid ((woR (l.take (k + 1)) id).length = (woR (l.take k) id).length + 1) := Lib.hid (by rw [TK.out]; simp)
        have S0 := But.size OB.out
        have kk : ∀ u, But (· = g + 2) X u → u.cell? ⟨g, 0, none⟩ = some (.slice (some ⟨b, off, none⟩) n c) := fun u hu => K0.out u hu
        clear TK RE e
        obtain ⟨W2, hW2⟩ : ∃ W2, woR (l.take (k + 1)) id = W2 := ⟨_, rfl⟩
        have HW2 := Lib.hid hW2
        rw [hW2] at RE2 LN
        clear hW2
        generalize woR (l.take k) id = W1 at *
        generalize l[k].c = x at *
        go_upto_region 6 with fail
        clear z0 k0 ee ee2
        have B2 : wr.drew.cell? ⟨g + 2, 0, none⟩ = some (.slice A7 W1.length c7) := by have := cell_of_row wr.drew (g + 2) 0 _ _ _ (show wr.drew.heap[g + 2]? = _ from BXX.out); simpa using this
        (refine wp_region_noPanic ?_; refine wp_region_held_drew (S := (fun u : World => But (· = g + 2) X u)) (by kernel_rfl) ?_ (fun hHeld => ?_); exact OB.out.drew)
        (refine tkW 0 ?_; try simp only [gmS])
        (refine tkW 2 ?_; try simp only [gmS])
        (refine tkW 3 ?_; try simp only [gmS])
        (refine tkW 4 ?_; try simp only [gmS])
        (refine tkW 5 ?_; try simp only [gmS])
        (refine tkW 6 ?_; try simp only [gmS])
        (refine wpAnyH_ready (rs := [1, 7]) (by kernel_rfl) (by simp) ?_; refine AllReadyH.cons (o := _) rfl (fun K hK => ?_) (AllReadyH.cons (o := _) rfl (fun K hK => ?_) AllReadyH.nil))
        · go_simp
          (refine hK.out _ _ hHeld (fun hHeld2 => ?_); clear hK K hHeld; have hHeld := hHeld2; clear hHeld2; try simp only [gmS])
          (refine rdW 7 (fun K hK => ?_); go_simp)
          (refine hK.out _ _ (But.alloc hHeld _) (fun hHeld2 => ?_); clear hK K hHeld; have hHeld := hHeld2; clear hHeld2; try simp only [gmS])
          (refine rdW 8 (fun K hK => ?_))
          refine step_appB rfl (.tmp 23) (.tmp 29) 22 rfl Tryz.underlying22 info_ob rfl (by decide) (g + 3) (.slice A7 W1.length c7) W1.length 1 (rosC W1) wr.drew #[.string (mkB x.id), .int .i64 x.kind, .int .i64 x.x, .int .i64 x.y, .slice A1 x.refs.length q1, .slice A2 x.tags.length q2] rfl (by intro y hy; simp at hy; rcases hy with rfl | rfl | rfl | rfl | rfl | rfl <;> rfl) rfl rfl rfl (own_same OW.out (fun g hg => rfl)) (by show g + 3 ≤ wr.heap.size; omega) (by omega) (by omega) (by decide) ?_
          intro A6 c6 w6 hown6 hb6 hg6
          have O6 := Lib.hid hown6
          have X6 : Hid (w6.heap[g + 2]? = some (.cells #[.slice A7 W1.length c7] 24 (0, 0))) := Lib.hid ((hb6.block _ (by omega)).trans BXX.out)
          have M6 : But (· = g + 2) X w6 := ButT.then (OB.out.drew) (by rw [XZ]; exact hb6)
          have C7 : w6.cell? ⟨g + 2, 0, none⟩ = some (.slice A7 W1.length c7) := by have := cell_of_row w6 (g + 2) 0 _ _ _ X6.out; simpa using this
          have F7 : w6.frozen? ⟨g + 2, 0, none⟩ = false := free_blk X6.out 0
          clear hown6 hb6 hg6
          (refine hK.out _ _ M6 (fun hHeld2 => ?_); clear hK K hHeld; have hHeld := hHeld2; clear hHeld2; try simp only [gmS])
          (refine tkW 9 ?_; try simp only [gmS])
          (refine rdW 10 (fun K hK => ?_); go_simp)
          (refine hK.out _ _ (But.set M6 (p := ⟨g + 2, 0, none⟩) rfl _) (fun hHeld2 => ?_); clear hK K hHeld; have hHeld := hHeld2; clear hHeld2; try simp only [gmS])
          (refine wpAnyH_done (by kernel_rfl) ?_ _; refine NoPanic.normal ?_)
          have OB2 : Hid (But (· = g + 2) X (w6.setCell ⟨g + 2, 0, none⟩ (.slice A6 (W1.length + 1) c6))) := Lib.hid (But.set M6 (p := ⟨g + 2, 0, none⟩) rfl _)
          have X7 : Hid ((w6.setCell ⟨g + 2, 0, none⟩ (.slice A6 (W1.length + 1) c6)).heap[g + 2]? = some (.cells #[.slice A6 (W1.length + 1) c6] 24 (0, 0))) := Lib.hid (one_map X6.out)
          have O7 : Hid ((w6.setCell ⟨g + 2, 0, none⟩ (.slice A6 (W1.length + 1) c6)).ownsRow (g + 3) 43 6 (.slice A6 (W1.length + 1) c6) W2.length (rosC W2)) := Lib.hid (by rw [LN.out, RE2.out]; exact own_same O6.out (fun q hq => Below.heap_setCell _ _ _ _ (fun e => by have := (O6.out.lt q hq).1; have e' : q = g + 2 := e; omega)))
          clear hHeld M6 C7 F7 X6 O6 f0 f1 f2 f3 f4 f5 B2 kk
          generalize w6.setCell ⟨g + 2, 0, none⟩ (.slice A6 (W1.length + 1) c6) = U at *
          go_wp2_with fail
          exact ⟨⟨k + 1, _, by omega, by go_num, Lib.hid (by rw [HW2.out]; exact O7.out), X7, OB2⟩, by simp [intOf]; omega⟩
        · go_simp
          have B3 : ((wr.alloc (.cells #[.string (mkB x.id), .int .i64 x.kind, .int .i64 x.x, .int .i64 x.y, .slice A1 x.refs.length q1, .slice A2 x.tags.length q2] 43)).drew).cell? ⟨g + 2, 0, none⟩ = some (.slice A7 W1.length c7) := (World.cell?_of_block (w := wr.drew) (alloc_old _ _ (show g + 2 < wr.heap.size by omega))).trans B2
          (refine hK.out _ _ (But.alloc hHeld _) (fun hHeld2 => ?_); clear hK K hHeld; have hHeld := hHeld2; clear hHeld2; try simp only [gmS])
          (refine rdW 1 (fun K hK => ?_); go_simp)
          (refine hK.out _ _ hHeld (fun hHeld2 => ?_); clear hK K hHeld; have hHeld := hHeld2; clear hHeld2; try simp only [gmS])
          clear B3
          (refine rdW 8 (fun K hK => ?_))
          refine step_appB rfl (.tmp 23) (.tmp 29) 22 rfl Tryz.underlying22 info_ob rfl (by decide) (g + 3) (.slice A7 W1.length c7) W1.length 1 (rosC W1) wr.drew #[.string (mkB x.id), .int .i64 x.kind, .int .i64 x.x, .int .i64 x.y, .slice A1 x.refs.length q1, .slice A2 x.tags.length q2] rfl (by intro y hy; simp at hy; rcases hy with rfl | rfl | rfl | rfl | rfl | rfl <;> rfl) rfl rfl rfl (own_same OW.out (fun g hg => rfl)) (by show g + 3 ≤ wr.heap.size; omega) (by omega) (by omega) (by decide) ?_
          intro A6 c6 w6 hown6 hb6 hg6
          have O6 := Lib.hid hown6
          have X6 : Hid (w6.heap[g + 2]? = some (.cells #[.slice A7 W1.length c7] 24 (0, 0))) := Lib.hid ((hb6.block _ (by omega)).trans BXX.out)
          have M6 : But (· = g + 2) X w6 := ButT.then (OB.out.drew) (by rw [XZ]; exact hb6)
          have C7 : w6.cell? ⟨g + 2, 0, none⟩ = some (.slice A7 W1.length c7) := by have := cell_of_row w6 (g + 2) 0 _ _ _ X6.out; simpa using this
          have F7 : w6.frozen? ⟨g + 2, 0, none⟩ = false := free_blk X6.out 0
          clear hown6 hb6 hg6
          (refine hK.out _ _ M6 (fun hHeld2 => ?_); clear hK K hHeld; have hHeld := hHeld2; clear hHeld2; try simp only [gmS])
          (refine tkW 9 ?_; try simp only [gmS])
          (refine rdW 10 (fun K hK => ?_); go_simp)
          (refine hK.out _ _ (But.set M6 (p := ⟨g + 2, 0, none⟩) rfl _) (fun hHeld2 => ?_); clear hK K hHeld; have hHeld := hHeld2; clear hHeld2; try simp only [gmS])
          (refine wpAnyH_done (by kernel_rfl) ?_ _; refine NoPanic.normal ?_)
          have OB2 : Hid (But (· = g + 2) X (w6.setCell ⟨g + 2, 0, none⟩ (.slice A6 (W1.length + 1) c6))) := Lib.hid (But.set M6 (p := ⟨g + 2, 0, none⟩) rfl _)
          have X7 : Hid ((w6.setCell ⟨g + 2, 0, none⟩ (.slice A6 (W1.length + 1) c6)).heap[g + 2]? = some (.cells #[.slice A6 (W1.length + 1) c6] 24 (0, 0))) := Lib.hid (one_map X6.out)
          have O7 : Hid ((w6.setCell ⟨g + 2, 0, none⟩ (.slice A6 (W1.length + 1) c6)).ownsRow (g + 3) 43 6 (.slice A6 (W1.length + 1) c6) W2.length (rosC W2)) := Lib.hid (by rw [LN.out, RE2.out]; exact own_same O6.out (fun q hq => Below.heap_setCell _ _ _ _ (fun e => by have := (O6.out.lt q hq).1; have e' : q = g + 2 := e; omega)))
          clear hHeld M6 C7 F7 X6 O6 f0 f1 f2 f3 f4 f5 B2 kk
          generalize w6.setCell ⟨g + 2, 0, none⟩ (.slice A6 (W1.length + 1) c6) = U at *
          go_wp2_with fail
          exact ⟨⟨k + 1, _, by omega, by go_num, Lib.hid (by rw [HW2.out]; exact O7.out), X7, OB2⟩, by simp [intOf]; omega⟩
    · obtain rfl : k = n := by omega
      have dk : decide ((k : Int) < (k : Int)) = false := by simp
      have TT : l.take k = l := List.take_of_length_le (by rw [← HN.out]; exact Nat.le_refl _)
      rw [TT] at OW LE BXX
      have k2 := cell_of_row wr (g + 2) 0 _ _ _ BXX.out
      have r1 := R1.out wr OB.out
      have k1 := cell_of_row wr (g + 1) 0 _ _ _ r1
      have z1 := free_blk r1 0
      simp at k2 k1
      have FIN := MapE_fin1 (w := w) (u := wr) (b4 := g + 1) (v := .slice A7 (woR l id).length c7) (R := woR l id) (n := (woR l id).length) (base := g + 3) OW.out rfl r1 (own_ne_map OW.out r1) (by omega) (BU.out _ OB.out) (fun r hr => ⟨H.out.ob r ((List.mem_filter.1 hr).1), H.out.sz r ((List.mem_filter.1 hr).1)⟩) (by omega)
      have FQ := MapE.toP (k := 0) FIN.2
      rw [cts_wo] at FQ
      have FR := Lib.hid FQ
      have FL := Lib.hid FIN.1
      clear hlt FIN FQ TT r1
      go_wp2_with fail
      refine bodyPost_ret (results_cell1 (i := 4) rfl rfl FL.out) rfl ?_
      exact FR.out
end Go.Proofs.YtlejeelmlclnkaaGreatDoor
namespace Go.Proofs.YtlejeelmlclnkaaGreatDoor
open Go.RowKit

theorem wo_below (l : List At.Ob) (id : Tx) : At.below (woF l id) id = At.below l id := by
  unfold At.below woF
  rw [List.filter_filter]
  refine List.filter_congr fun o _ => ?_
  cases h : At.lt o.id id
  · simp
  · simp [At.lt_ne h]
theorem wo_above (l : List At.Ob) (id : Tx) : At.above (woF l id) id = At.above l id := by
  unfold At.above woF
  rw [List.filter_filter]
  refine List.filter_congr fun o _ => ?_
  cases h : At.lt id o.id
  · simp
  · have : o.id ≠ id := fun e => At.lt_ne h e.symm
    simp [this]
theorem wo_srt {l : List At.Ob} (h : At.Srt l) (id : Tx) : At.Srt (woF l id) := At.srt_sub h (List.filter_sublist)
theorem wo_look (l : List At.Ob) (id : Tx) : At.look (woF l id) id = none := At.look_none.2 fun o ho => by
  have := (List.mem_filter.1 ho).2
  simpa using this
theorem wo_put {l : List At.Ob} (h : At.Srt l) (o : At.Ob) : At.putF l o = (woF l o.id).take (At.pos (woF l o.id) o.id) ++ o :: (woF l o.id).drop (At.pos (woF l o.id) o.id) := by
  rw [← At.put_pos_new (wo_srt h o.id) (wo_look l o.id)]
  unfold At.putF
  rw [wo_below, wo_above]
theorem MapP_fin {w u : World} {b4 n base n0 c0 : Nat} {A0 : Option Addr} {v : Value} {R : List RO} (ho : u.ownsRow base 43 6 v n (rosC R)) (hn : n = R.length) (h4 : u.heap[b4]? = some (.cells #[.slice A0 n0 c0] 24 (0, 0)))
    (hb4 : w.heap.size ≤ b4) (hb : Below w.heap.size w u) (hr : ∀ r ∈ R, ObIs u r ∧ ObSz r.c ∧ r.c.refs.length ≤ 100000) (hl : R.length ≤ 100000) :
    (loadVar 24 ⟨b4, 0, none⟩).run Tryz.prog (u.setCell ⟨b4, 0, none⟩ v) = .ok (.agg #[v]) (u.setCell ⟨b4, 0, none⟩ v) ∧ MapP w (cts R) (.returned (.agg #[v])) (u.setCell ⟨b4, 0, none⟩ v) := by
  refine ⟨load_map (one_setCell h4), ?_⟩
  have n4 := own_ne_map ho h4
  have hB : Below w.heap.size w (u.setCell ⟨b4, 0, none⟩ v) := hb.setCell (by show w.heap.size ≤ b4; omega) _
  have hO : (u.setCell ⟨b4, 0, none⟩ v).ownsRow base 43 6 v n (rosC R) := own_same ho (fun g hg => Below.heap_setCell _ _ _ _ (fun e => n4 (by rw [hg]; exact congrArg some e)))
  obtain ⟨A, c, e, hM, hC⟩ := Ms.of_own hO hn (fun r hr' => (hr r hr').1.setBox h4 v) (fun r hr' => (hr r hr').2) hl
  exact ⟨A, c, R, by rw [e], hM, rfl, hC, hB⟩
set_option maxHeartbeats 8000000 in
set_option maxRecDepth 100000 in
theorem rwith_any (A : Option Addr) (n c : Nat) (l : List RO) (x : RO) (w : World) (hn : n = l.length) (hl : n ≤ 99999) (h : Ms w A l) (hx : ObIs w x) (hs : ObSz x.c ∧ x.c.refs.length ≤ 100000) (ho : At.Srt (cts l)) :
    Calls Tryz.prog 68 #[.agg #[.slice A n c], roA x] w (MapP w (At.putF (cts l) x.c)) := by
  have H := Lib.hid h
  have HN := Lib.hid hn
  have HX := Lib.hid hx
  have HS := Lib.hid hs
  have PU := Lib.hid (wo_put ho x.c)
  have SW := Lib.hid (wo_srt ho x.c.id)
  obtain ⟨A1, q1, v1, -⟩ := hx.rs
  obtain ⟨A2, q2, v2, -⟩ := hx.ts
  obtain ⟨g, hg⟩ : ∃ g, g = w.heap.size := ⟨_, rfl⟩
  obtain ⟨X, hX⟩ : ∃ X, X = ((w.alloc (.cells #[.slice A n c] 24)).alloc (.cells #[.string (mkB x.c.id), .int .i64 x.c.kind, .int .i64 x.c.x, .int .i64 x.c.y, .slice A1 x.c.refs.length q1, .slice A2 x.c.tags.length q2] 43)).alloc (.cells #[.slice none 0 0] 24) := ⟨_, rfl⟩
  have XZ : X.heap.size = g + 3 := by rw [hX, hg]; simp
  have X0 : X.heap[g]? = some (.cells #[.slice A n c] 24 (0, 0)) := by rw [hX, hg]; exact (alloc_old _ _ (by simp; omega)).trans ((alloc_old _ _ (by simp)).trans (heap_alloc_new w _))
  have X1 : Hid (X.heap[g + 1]? = some (.cells #[.string (mkB x.c.id), .int .i64 x.c.kind, .int .i64 x.c.x, .int .i64 x.c.y, .slice A1 x.c.refs.length q1, .slice A2 x.c.tags.length q2] 43 (0, 0))) := Lib.hid (by rw [hX, hg]; exact (alloc_old _ _ (by simp)).trans (alloc_new' _ _ _ (by simp)))
  have X2 : Hid (X.heap[g + 2]? = some (.cells #[.slice none 0 0] 24 (0, 0))) := Lib.hid (by rw [hX, hg]; exact alloc_new' _ _ _ (by simp))
  have BX : Hid (Below w.heap.size w X) := Lib.hid (by rw [hX]; exact (((Below.refl _ _).alloc (Nat.le_refl _) _).alloc (by simp) _).alloc (by simp; omega) _)
  have WO := Lib.hid (rwithout_any A n c l x.c.id X hn (h.below BX.out))
  have RE : Hid (rosC [x] = [.string (mkB x.c.id), .int .i64 x.c.kind, .int .i64 x.c.x, .int .i64 x.c.y, .slice A1 x.c.refs.length q1, .slice A2 x.c.tags.length q2]) := Lib.hid (by unfold rosC; rw [List.flatMap_singleton]; unfold roC; rw [v1, v2])
  unfold roA
  rw [v1, v2]
  have k0 := cell_of_row X g 0 _ _ _ X0
  have k1 := cell_of_row X (g + 1) 0 _ _ _ X1.out
  simp at k0 k1
  clear v1 v2 h hn hx hs ho
  go_enter Tryz.func68, Tryz.ntmps68
  go_upto_region 1 with fail
  rw [← hX]
  clear hX
  rw [← hg]
  have HG := Lib.hid hg
  clear hg
  go_wp2_with fail
  refine WO.out.mono ?_
  rintro e u1 ⟨A3, c3, R3, rfl, M3, he3, hc3, b3⟩
  have Y0 := (b3.block g (by omega)).trans X0
  have Y1 := Lib.hid ((b3.block (g + 1) (by omega)).trans X1.out)
  have Y2 := Lib.hid ((b3.block (g + 2) (by omega)).trans X2.out)
  have LV := Lib.hid (Live.set Y0 M3 hc3)
  have BU := Lib.hid ((BX.out.trans (Below.mono b3 BX.out.size)).setCell (p := ⟨g, 0, none⟩) (by show w.heap.size ≤ g; have := HG.out; omega) (.slice A3 R3.length c3))
  have C0 := cell_of_row u1 g 0 _ _ _ Y0
  have F0 := free_blk Y0 0
  simp at C0
  have E3 := Lib.hid he3
  have C3 := Lib.hid hc3
  have US : g + 3 ≤ u1.heap.size := by have := b3.size; omega
  clear k0 k1 WO M3 b3 X0 he3 hc3
  have Z1 : Hid ((u1.setCell ⟨g, 0, none⟩ (.slice A3 R3.length c3)).heap[g + 1]? = some (.cells #[.string (mkB x.c.id), .int .i64 x.c.kind, .int .i64 x.c.x, .int .i64 x.c.y, .slice A1 x.c.refs.length q1, .slice A2 x.c.tags.length q2] 43 (0, 0))) := Lib.hid ((Below.heap_setCell _ _ _ _ (by show g + 1 ≠ g; omega)).trans Y1.out)
  have Z2 : Hid ((u1.setCell ⟨g, 0, none⟩ (.slice A3 R3.length c3)).heap[g + 2]? = some (.cells #[.slice none 0 0] 24 (0, 0))) := Lib.hid ((Below.heap_setCell _ _ _ _ (by show g + 2 ≠ g; omega)).trans Y2.out)
  have US2 : g + 3 ≤ (u1.setCell ⟨g, 0, none⟩ (.slice A3 R3.length c3)).heap.size := by rw [World.size_setCell]; exact US
  go_upto_region 2 with fail
  clear Y0 Y1 Y2 F0 C0 X1 X2 US XZ
  generalize u1.setCell ⟨g, 0, none⟩ (.slice A3 R3.length c3) = U at *
  have SR : Hid (At.Srt (cts R3)) := Lib.hid (by rw [E3.out]; exact SW.out)
  have OO : Hid (∀ r ∈ R3, ObIs U r) := Lib.hid (fun r hr => LV.out.ms.ob r hr)
  have PL : At.pos (cts R3) x.c.id ≤ R3.length := by have := At.pos_le (cts R3) x.c.id; rwa [cts_len] at this
  have PS : Hid (∀ k (h : k < R3.length), At.lt R3[k].c.id x.c.id = true ↔ k < At.pos (cts R3) x.c.id) := Lib.hid (fun k h => by
    have := At.pos_split SR.out (id := x.c.id) (i := k) (by rw [cts_len]; exact h)
    simpa [cts] using this)
  have RL : R3.length ≤ n := by
    rw [← cts_len R3, E3.out, HN.out, ← cts_len l]; exact List.length_filter_le _ _
  have PE : Hid (At.putF (cts l) x.c = cts (R3.take (At.pos (cts R3) x.c.id) ++ x :: R3.drop (At.pos (cts R3) x.c.id))) := Lib.hid (by
    rw [PU.out, ← E3.out]; unfold cts; rw [List.map_append, List.map_cons, List.map_take, List.map_drop])
  generalize At.pos (cts R3) x.c.id = p at *
  have K0 : ∀ u, OldB U u → u.cell? ⟨g, 0, none⟩ = some (.slice A3 R3.length c3) := fun u hu => (LV.out.below hu).cell
  have XC : Hid (∀ u, OldB U u → u.heap[g + 1]? = some (.cells #[.string (mkB x.c.id), .int .i64 x.c.kind, .int .i64 x.c.x, .int .i64 x.c.y, .slice A1 x.c.refs.length q1, .slice A2 x.c.tags.length q2] 43 (0, 0))) := Lib.hid (fun u hu => (hu.block _ (by omega)).trans Z1.out)
  have e0 : ∀ u, OldB U u → u.cell? ⟨g + 1, 0, none⟩ = some (.string (mkB x.c.id)) := fun u hu => by have := cell_of_row u (g + 1) 0 _ _ _ (XC.out u hu); simpa using this
  have e1 : ∀ u, OldB U u → u.cell? ⟨g + 1, 1, none⟩ = some (.int .i64 x.c.kind) := fun u hu => by have := cell_of_row u (g + 1) 1 _ _ _ (XC.out u hu); simpa using this
  have e2 : ∀ u, OldB U u → u.cell? ⟨g + 1, 2, none⟩ = some (.int .i64 x.c.x) := fun u hu => by have := cell_of_row u (g + 1) 2 _ _ _ (XC.out u hu); simpa using this
  have e3 : ∀ u, OldB U u → u.cell? ⟨g + 1, 3, none⟩ = some (.int .i64 x.c.y) := fun u hu => by have := cell_of_row u (g + 1) 3 _ _ _ (XC.out u hu); simpa using this
  have e4 : ∀ u, OldB U u → u.cell? ⟨g + 1, 4, none⟩ = some (.slice A1 x.c.refs.length q1) := fun u hu => by have := cell_of_row u (g + 1) 4 _ _ _ (XC.out u hu); simpa using this
  have e5 : ∀ u, OldB U u → u.cell? ⟨g + 1, 5, none⟩ = some (.slice A2 x.c.tags.length q2) := fun u hu => by have := cell_of_row u (g + 1) 5 _ _ _ (XC.out u hu); simpa using this
  have OU : Hid (OldB U U) := Lib.hid (Below.refl _ _)
  go_upto_region 3 with fail
  clear Z1 SW SR PU XC
  go_loopw [5] (fun s5 wr => ∃ k : Nat, k ≤ p ∧ s5 = .int .i64 (k : Int) ∧ Hid (OldB U wr)) (fun i _ => p - (intOf i).toNat)
  case atStart => exact ⟨0, Nat.zero_le _, rfl, OU⟩
  case round =>
    clear OU
    obtain ⟨k, hk, rfl, OW⟩ := hrel
    have k0 := K0 wr OW.out
    have i0 := e0 wr OW.out
    have k8 : IntKind.i64.wrap ((k : Int) + 1) = (k : Int) + 1 := IntWalk.i64_in _ (by omega)
    have tx := mkB_tl x.c.id
    by_cases hlen : k < R3.length
    · obtain ⟨b, off, e', hb, c0, -⟩ := ros_at (LV.out.below OW.out).ms.rd hlen
      subst e'
      have d1 : decide ((k : Int) < (R3.length : Int)) = true := by simp; omega
      have d3 : (k : Int) < (R3.length : Int) := by omega
      have d2 : (0 : Int) ≤ (k : Int) := by omega
      have t0 := mkB_tl R3[k].c.id
      have PK := PS.out k hlen
      by_cases hlt : k < p
      · have p4 : Op.bytesLess R3[k].c.id x.c.id = true := PK.2 hlt
        clear PK
        go_wp2_with fail
        go_quiet (fail)
        go_wp2_with fail
        exact ⟨⟨k + 1, hlt, by go_num, Lib.hid (belowNN OW.out _)⟩, by simp [intOf]; omega⟩
      · have p4 : Op.bytesLess R3[k].c.id x.c.id = false := by
          cases h : Op.bytesLess R3[k].c.id x.c.id
          · rfl
          · exact absurd (PK.1 h) hlt
        obtain rfl : k = p := by omega
        clear PK hlt
        go_wp2_with fail
        go_quiet (fail)
        have OW := Lib.hid (belowNN OW.out nq)
        generalize wr.drewN nq = v1 at *
        clear k0 i0 c0 d1 p4 t0 tx
        have hk2 : k ≤ R3.length := PL
        have hck : (c3 = k) = False := by have := C3.out; simp; omega
        have RDF : Hid (∀ u, OldB U u → Rd u (some ⟨b, off + k * 6, none⟩) (rosC (R3.drop k))) := Lib.hid (fun u hu => by
          have := rd_from (LV.out.below hu).ms.rd hk2 C3.out
          rw [if_neg (by have := C3.out; omega), Option.map_some, Addr.add_lit] at this
          exact this)
        have hkc : (k : Int) ≤ (c3 : Int) := by have := C3.out; omega
        have hkl : (k : Int) ≤ (R3.length : Int) := by omega
        have hk0 : (0 : Int) ≤ (k : Int) := by omega
        go_upto_region 5 with fail
        (refine wp_region_noPanic ?_; refine wp_region_held_drew (S := (OldB U)) (by kernel_rfl) ?_ (fun hHeld => ?_); exact Below.drew OW.out)
        (refine tkW 0 ?_; try simp only [gmS])
        (refine tkW 2 ?_; try simp only [gmS])
        (refine tkW 3 ?_; try simp only [gmS])
        (refine tkW 4 ?_; try simp only [gmS])
        (refine tkW 5 ?_; try simp only [gmS])
        (refine rdW 1 (fun K hK => ?_); go_simp)
        have OL := Lib.hid (World.ownsRow_lit (base := U.heap.size) (e := 43) (size := 6) v1.drew #[.string (mkB x.c.id), .int .i64 x.c.kind, .int .i64 x.c.x, .int .i64 x.c.y, .slice A1 x.c.refs.length q1, .slice A2 x.c.tags.length q2] 1 (by show U.heap.size ≤ v1.heap.size; exact Below.size OW.out) (by simp [maxLen]) rfl)
        have OL2 : Hid ((v1.drew.alloc (.cells #[.string (mkB x.c.id), .int .i64 x.c.kind, .int .i64 x.c.x, .int .i64 x.c.y, .slice A1 x.c.refs.length q1, .slice A2 x.c.tags.length q2] 43)).ownsRow U.heap.size 43 6 (.slice (some ⟨v1.heap.size, 0, none⟩) 1 1) 1 (rosC [x])) := Lib.hid (by rw [RE.out]; exact OL.out)
        have ON := ros_one (w := U) (l := R3.drop k) (fun r hr => LV.out.ms.ob r (List.mem_of_mem_drop hr))
        have TL : (rosC (R3.drop k)).length = (R3.length - k) * 6 := by rw [rosC_len, List.length_drop]
        (refine hK.out _ _ (OldB.then hHeld ((Below.refl _ _).alloc (Nat.le_refl _) _)) (fun hHeld2 => ?_); clear hK K hHeld; have hHeld := hHeld2; clear hHeld2; try simp only [gmS])
        (refine rdW 6 (fun K hK => ?_))
        refine step_appRS (by simp [Region.wanted, yielded]) (.tmp 30) (.tmp 34) 22 rfl Tryz.underlying22 info_ob rfl (by decide) U.heap.size (.slice (some ⟨v1.heap.size, 0, none⟩) 1 1) 1 (rosC [x]) _ (R3.length - k) _ (rosC (R3.drop k)) ON rfl rfl (own_same OL2.out (fun q hq => rfl)) (RDF.out _ hHeld) TL (Below.size hHeld) (by omega) (by omega) ?_
        intro v7 w7 o7 b7 g7
        obtain ⟨A7, c7, ev7, r7⟩ := own_sl o7
        subst ev7
        have M7 : OldB U w7 := Below.trans hHeld b7
        have R7 := Lib.hid r7
        have OW7 := Lib.hid M7
        clear o7 b7 g7 r7 OL OL2 ON TL
        (refine hK.out _ _ M7 (fun hHeld2 => ?_); clear hK K hHeld; have hHeld := hHeld2; clear hHeld2; try simp only [gmS])
        (refine tkW 7 ?_; try simp only [gmS])
        (refine wpAnyH_done (by kernel_rfl) ?_ _; refine NoPanic.normal ?_)
        clear hHeld M7 OW e0 e1 e2 e3 e4 e5
        have b0 : Below w7.heap.size w7 (w7.alloc (.cells #[] 43)) := (Below.refl _ _).alloc (Nat.le_refl _) _
        have O8 := Lib.hid (World.ownsRow_lit (base := w7.heap.size) (e := 43) (size := 6) w7 #[] 0 (Nat.le_refl _) (by simp [maxLen]) rfl)
        have R8 := Lib.hid (R7.out.below b0)
        have OW8 := Lib.hid (OldB.then OW7.out b0)
        have Z8 : (w7.alloc (.cells #[] 43)).heap.size = w7.heap.size + 1 := by simp
        have k0 := K0 _ OW8.out
        have LV8 := Lib.hid (LV.out.below OW8.out)
        have RU := Lib.hid (rd_upto (p := k) LV8.out.ms.rd)
        have ON := ros_one (w := U) (l := R3.take k) (fun r hr => LV.out.ms.ob r (List.mem_of_mem_take hr))
        have TL : (rosC (R3.take k)).length = k * 6 := by rw [rosC_len, List.length_take]; omega
        have ON2 : ∀ u ∈ rosC [x] ++ rosC (R3.drop k), u.oneCell' = true := by
          rw [← rosC_app]
          exact ros_one (w := U) (fun r hr => by
            rcases List.mem_append.1 hr with h | h
            · rw [List.mem_singleton.1 h]; exact HX.out.below BU.out
            · exact OO.out r (List.mem_of_mem_drop h))
        have TL2 : (rosC [x] ++ rosC (R3.drop k)).length = (1 + (R3.length - k)) * 6 := by rw [← rosC_app, rosC_len, List.length_append, List.length_drop]; rfl
        go_wp2_with (at_builtin; refine wpList_appRS rfl (.tmp 36) (.tmp 40) 22 rfl Tryz.underlying22 info_ob rfl (by decide) w7.heap.size (.slice (some ⟨w7.heap.size, 0, none⟩) 0 0) 0 [] _ k _ (rosC (R3.take k)) ON rfl rfl O8.out RU.out TL (by omega) (by omega) (by omega) ?_)
        intro v8 w8 o8 b8 g8
        obtain ⟨A8, c8, ev8, -⟩ := own_sl o8
        subst ev8
        have O9 := Lib.hid o8
        have b08 := Below.trans b0 b8
        have R9 := Lib.hid (R7.out.below b08)
        have OW9 := Lib.hid (OldB.then OW7.out b08)
        have bz8 := b08.size
        clear o8 b8 g8 b0 k0 O8 R8 RU ON TL OW8 LV8
        go_wp2_with (at_builtin; refine wpList_appRS rfl (.tmp 41) (.tmp 42) 22 rfl Tryz.underlying22 info_ob rfl (by decide) w7.heap.size _ k _ A7 (1 + (R3.length - k)) c7 (rosC [x] ++ rosC (R3.drop k)) ON2 rfl rfl O9.out R9.out TL2 bz8 (by omega) (by omega) ?_)
        intro v9 w9 o9 b9 g9
        rw [show rosC (R3.take k) ++ (rosC [x] ++ rosC (R3.drop k)) = rosC (R3.take k ++ x :: R3.drop k) from by rw [← rosC_app, ← rosC_app]; rfl] at o9
        have BO9 : OldB U w9 := Below.trans OW9.out (Below.mono b9 (Below.size OW7.out))
        have BW9 := BU.out.trans (Below.mono BO9 BU.out.size)
        have r2 := (Below.block BO9 (g + 2) (by omega)).trans Z2.out
        have FIN := MapP_fin (w := w) (u := w9) (b4 := g + 2) (v := v9) (R := R3.take k ++ x :: R3.drop k) (n := k + (1 + (R3.length - k))) (base := w7.heap.size) o9 (by rw [List.length_append, List.length_cons, List.length_take, List.length_drop]; omega) r2 (by have := HG.out; omega) BW9 (fun r hr => by
          have hR : ∀ r ∈ R3, ObIs w9 r ∧ ObSz r.c ∧ r.c.refs.length ≤ 100000 := fun r hr => ⟨(OO.out r hr).below BO9, LV.out.ms.sz r hr⟩
          rcases List.mem_append.1 hr with h | h
          · exact hR r (List.mem_of_mem_take h)
          · rcases List.mem_cons.1 h with rfl | h
            · exact ⟨HX.out.below BW9, HS.out⟩
            · exact hR r (List.mem_of_mem_drop h)) (by rw [List.length_append, List.length_cons, List.length_take, List.length_drop]; omega)
        rw [← PE.out] at FIN
        have FL := Lib.hid FIN.1
        have FR := Lib.hid FIN.2
        obtain ⟨A9, c9, ev9, -⟩ := own_sl o9
        subst ev9
        have k2 := cell_of_row w9 (g + 2) 0 _ _ _ r2
        have z2 := free_blk r2 0
        simp at k2
        clear o9 b9 g9 BO9 BW9 r2 FIN K0
        go_wp2_with fail
        refine bodyPost_ret (results_cell1 (i := 4) rfl rfl FL.out) rfl ?_
        exact FR.out
    · obtain rfl : k = p := by omega
      have hke : k = R3.length := by omega
      have hk2 : k ≤ R3.length := PL
      have d1 : decide ((k : Int) < (R3.length : Int)) = false := by simp; omega
      have d1b : decide (k < R3.length) = false := by simp; omega
      have HKE := Lib.hid hke
      clear hke hlen
      go_wp2_with fail
      go_quiet (fail)
      have OW := Lib.hid (belowNN OW.out nq)
      generalize wr.drewN nq = v1 at *
      clear k0 i0 d1 d1b tx
      have RN : ∀ (u : World) (B : Option Addr), Rd u B (rosC (R3.drop k)) := fun u B => by rw [HKE.out, List.drop_length]; exact Rd.nil_ _ _
      rcases Classical.propComplete (c3 = k) with hck | hck
      all_goals
        have hkc : (k : Int) ≤ (c3 : Int) := by have := C3.out; omega
        have hkl : (k : Int) ≤ (R3.length : Int) := by omega
        have hk0 : (0 : Int) ≤ (k : Int) := by omega
        go_upto_region 5 with fail
        (refine wp_region_noPanic ?_; refine wp_region_held_drew (S := (OldB U)) (by kernel_rfl) ?_ (fun hHeld => ?_); exact Below.drew OW.out)
        (refine tkW 0 ?_; try simp only [gmS])
        (refine tkW 2 ?_; try simp only [gmS])
        (refine tkW 3 ?_; try simp only [gmS])
        (refine tkW 4 ?_; try simp only [gmS])
        (refine tkW 5 ?_; try simp only [gmS])
        (refine rdW 1 (fun K hK => ?_); go_simp)
        have OL := Lib.hid (World.ownsRow_lit (base := U.heap.size) (e := 43) (size := 6) v1.drew #[.string (mkB x.c.id), .int .i64 x.c.kind, .int .i64 x.c.x, .int .i64 x.c.y, .slice A1 x.c.refs.length q1, .slice A2 x.c.tags.length q2] 1 (by show U.heap.size ≤ v1.heap.size; exact Below.size OW.out) (by simp [maxLen]) rfl)
        have OL2 : Hid ((v1.drew.alloc (.cells #[.string (mkB x.c.id), .int .i64 x.c.kind, .int .i64 x.c.x, .int .i64 x.c.y, .slice A1 x.c.refs.length q1, .slice A2 x.c.tags.length q2] 43)).ownsRow U.heap.size 43 6 (.slice (some ⟨v1.heap.size, 0, none⟩) 1 1) 1 (rosC [x])) := Lib.hid (by rw [RE.out]; exact OL.out)
        have ON := ros_one (w := U) (l := R3.drop k) (fun r hr => LV.out.ms.ob r (List.mem_of_mem_drop hr))
        have TL : (rosC (R3.drop k)).length = (R3.length - k) * 6 := by rw [rosC_len, List.length_drop]
        (refine hK.out _ _ (OldB.then hHeld ((Below.refl _ _).alloc (Nat.le_refl _) _)) (fun hHeld2 => ?_); clear hK K hHeld; have hHeld := hHeld2; clear hHeld2; try simp only [gmS])
        (refine rdW 6 (fun K hK => ?_))
        refine step_appRS (by simp [Region.wanted, yielded]) (.tmp 30) (.tmp 34) 22 rfl Tryz.underlying22 info_ob rfl (by decide) U.heap.size (.slice (some ⟨v1.heap.size, 0, none⟩) 1 1) 1 (rosC [x]) _ (R3.length - k) _ (rosC (R3.drop k)) ON rfl rfl (own_same OL2.out (fun q hq => rfl)) (RN _ _) TL (Below.size hHeld) (by omega) (by omega) ?_
        intro v7 w7 o7 b7 g7
        obtain ⟨A7, c7, ev7, r7⟩ := own_sl o7
        subst ev7
        have M7 : OldB U w7 := Below.trans hHeld b7
        have R7 := Lib.hid r7
        have OW7 := Lib.hid M7
        clear o7 b7 g7 r7 OL OL2 ON TL
        (refine hK.out _ _ M7 (fun hHeld2 => ?_); clear hK K hHeld; have hHeld := hHeld2; clear hHeld2; try simp only [gmS])
        (refine tkW 7 ?_; try simp only [gmS])
        (refine wpAnyH_done (by kernel_rfl) ?_ _; refine NoPanic.normal ?_)
        clear hHeld M7 OW e0 e1 e2 e3 e4 e5
        have b0 : Below w7.heap.size w7 (w7.alloc (.cells #[] 43)) := (Below.refl _ _).alloc (Nat.le_refl _) _
        have O8 := Lib.hid (World.ownsRow_lit (base := w7.heap.size) (e := 43) (size := 6) w7 #[] 0 (Nat.le_refl _) (by simp [maxLen]) rfl)
        have R8 := Lib.hid (R7.out.below b0)
        have OW8 := Lib.hid (OldB.then OW7.out b0)
        have Z8 : (w7.alloc (.cells #[] 43)).heap.size = w7.heap.size + 1 := by simp
        have k0 := K0 _ OW8.out
        have LV8 := Lib.hid (LV.out.below OW8.out)
        have RU := Lib.hid (rd_upto (p := k) LV8.out.ms.rd)
        have ON := ros_one (w := U) (l := R3.take k) (fun r hr => LV.out.ms.ob r (List.mem_of_mem_take hr))
        have TL : (rosC (R3.take k)).length = k * 6 := by rw [rosC_len, List.length_take]; omega
        have ON2 : ∀ u ∈ rosC [x] ++ rosC (R3.drop k), u.oneCell' = true := by
          rw [← rosC_app]
          exact ros_one (w := U) (fun r hr => by
            rcases List.mem_append.1 hr with h | h
            · rw [List.mem_singleton.1 h]; exact HX.out.below BU.out
            · exact OO.out r (List.mem_of_mem_drop h))
        have TL2 : (rosC [x] ++ rosC (R3.drop k)).length = (1 + (R3.length - k)) * 6 := by rw [← rosC_app, rosC_len, List.length_append, List.length_drop]; rfl
        go_wp2_with (at_builtin; refine wpList_appRS rfl (.tmp 36) (.tmp 40) 22 rfl Tryz.underlying22 info_ob rfl (by decide) w7.heap.size (.slice (some ⟨w7.heap.size, 0, none⟩) 0 0) 0 [] _ k _ (rosC (R3.take k)) ON rfl rfl O8.out RU.out TL (by omega) (by omega) (by omega) ?_)
        intro v8 w8 o8 b8 g8
        obtain ⟨A8, c8, ev8, -⟩ := own_sl o8
        subst ev8
        have O9 := Lib.hid o8
        have b08 := Below.trans b0 b8
        have R9 := Lib.hid (R7.out.below b08)
        have OW9 := Lib.hid (OldB.then OW7.out b08)
        have bz8 := b08.size
        clear o8 b8 g8 b0 k0 O8 R8 RU ON TL OW8 LV8
        go_wp2_with (at_builtin; refine wpList_appRS rfl (.tmp 41) (.tmp 42) 22 rfl Tryz.underlying22 info_ob rfl (by decide) w7.heap.size _ k _ A7 (1 + (R3.length - k)) c7 (rosC [x] ++ rosC (R3.drop k)) ON2 rfl rfl O9.out R9.out TL2 bz8 (by omega) (by omega) ?_)
        intro v9 w9 o9 b9 g9
        rw [show rosC (R3.take k) ++ (rosC [x] ++ rosC (R3.drop k)) = rosC (R3.take k ++ x :: R3.drop k) from by rw [← rosC_app, ← rosC_app]; rfl] at o9
        have BO9 : OldB U w9 := Below.trans OW9.out (Below.mono b9 (Below.size OW7.out))
        have BW9 := BU.out.trans (Below.mono BO9 BU.out.size)
        have r2 := (Below.block BO9 (g + 2) (by omega)).trans Z2.out
        have FIN := MapP_fin (w := w) (u := w9) (b4 := g + 2) (v := v9) (R := R3.take k ++ x :: R3.drop k) (n := k + (1 + (R3.length - k))) (base := w7.heap.size) o9 (by rw [List.length_append, List.length_cons, List.length_take, List.length_drop]; omega) r2 (by have := HG.out; omega) BW9 (fun r hr => by
          have hR : ∀ r ∈ R3, ObIs w9 r ∧ ObSz r.c ∧ r.c.refs.length ≤ 100000 := fun r hr => ⟨(OO.out r hr).below BO9, LV.out.ms.sz r hr⟩
          rcases List.mem_append.1 hr with h | h
          · exact hR r (List.mem_of_mem_take h)
          · rcases List.mem_cons.1 h with rfl | h
            · exact ⟨HX.out.below BW9, HS.out⟩
            · exact hR r (List.mem_of_mem_drop h)) (by rw [List.length_append, List.length_cons, List.length_take, List.length_drop]; omega)
        rw [← PE.out] at FIN
        have FL := Lib.hid FIN.1
        have FR := Lib.hid FIN.2
        obtain ⟨A9, c9, ev9, -⟩ := own_sl o9
        subst ev9
        have k2 := cell_of_row w9 (g + 2) 0 _ _ _ r2
        have z2 := free_blk r2 0
        simp at k2
        clear o9 b9 g9 BO9 BW9 r2 FIN K0
        go_wp2_with fail
        refine bodyPost_ret (results_cell1 (i := 4) rfl rfl FL.out) rfl ?_
        exact FR.out
end Go.Proofs.YtlejeelmlclnkaaGreatDoor
namespace Go.Proofs.YtlejeelmlclnkaaGreatDoor
open At

theorem putF_length (X : List Ob) (hs : Srt X) (o : Ob) : (putF X o).length ≤ X.length + 1 := by
  have h := congrArg List.length (parts hs o.id)
  simp only [List.length_append] at h
  unfold putF
  simp only [List.length_append, List.length_cons]
  omega
theorem put_valid {X : List Ob} {o : Ob} (h : validM X = true) (ho : validO o = true) (hl : X.length ≤ 999999) : validM (putF X o) = true := by
  obtain ⟨h1, h2, h3⟩ := validM_iff.1 h
  refine validM_iff.2 ⟨srt_put h1 o, fun x hx => ?_, by have := putF_length X h1 o; omega⟩
  rcases mem_put.1 hx with rfl | ⟨hx, -⟩
  · exact ho
  · exact h2 x hx
theorem putM_ok {X : List Ob} {o : Ob} (h : validM X = true) (ho : validO o = true) : putM X o = (putF X o, 0) := by
  unfold putM; rw [h, ho]; rfl
/-- objects of L, put one after the other -/
structure OrdP (L X : List Ob) : Prop where
  v : validM X = true
  sub : ∀ o ∈ X, o ∈ L
theorem ordP_nil (L : List Ob) : OrdP L [] := ⟨by decide, fun o h => by cases h⟩
theorem OrdP.put {L X : List Ob} (h : OrdP L X) (hL : validM L = true) {o : Ob} (ho : o ∈ L) (hl : X.length ≤ 999999) : putM X o = (putF X o, 0) ∧ OrdP L (putF X o) ∧ (putF X o).length ≤ X.length + 1 ∧ (∀ p, p ∈ X ∨ p = o → p ∈ putF X o) := by
  obtain ⟨l1, l2, l3⟩ := validM_iff.1 hL
  have x1 := (validM_iff.1 h.v).1
  refine ⟨putM_ok h.v (l2 o ho), ⟨put_valid h.v (l2 o ho) hl, fun p hp => ?_⟩, putF_length X x1 o, ?_⟩
  · rcases mem_put.1 hp with rfl | ⟨hp, -⟩
    · exact ho
    · exact h.sub p hp
  · rintro p (hp | rfl)
    · rcases Classical.em (p.id = o.id) with e | e
      · rw [srt_unique l1 (h.sub p hp) ho e]; exact mem_put.2 (.inl rfl)
      · exact mem_put.2 (.inr ⟨hp, e⟩)
    · exact mem_put.2 (.inl rfl)
theorem OrdP.all {L X : List Ob} (h : OrdP L X) (hL : validM L = true) (ha : ∀ o ∈ L, o ∈ X) : X = L :=
  srt_ext (validM_iff.1 h.v).1 (validM_iff.1 hL).1 fun o => ⟨h.sub o, ha o⟩
/-! ### finding -/
theorem find_some {L : List Ob} (hs : Srt L) {id : Tx} {o : Ob} (h : At.look L id = some o) : ∃ hp : pos L id < L.length, L[pos L id] = o ∧ findR L id = (pos L id : Int) := by
  obtain ⟨hp, e⟩ := get_pos hs h
  refine ⟨hp, e, findR_at hp (by rw [e]; exact look_id h) fun i hi hlt => ?_⟩
  have := (pos_split hs (id := id) hi).2 hlt
  exact lt_ne this
theorem find_none {L : List Ob} {id : Tx} (h : At.look L id = none) : findR L id = -1 := findR_none fun i hi => look_none.1 h _ (List.getElem_mem hi)
end Go.Proofs.YtlejeelmlclnkaaGreatDoor
namespace Go.Proofs.YtlejeelmlclnkaaGreatDoor
open Go.RowKit

theorem wo_drop {l : List At.Ob} (h : At.Srt l) (id : Tx) : woF l id = At.dropF l id :=
  At.srt_ext (wo_srt h id) (At.srt_dropF h id) fun o => by
    rw [At.mem_dropF]
    unfold woF
    rw [List.mem_filter]
    simp
/-- a map's parts are laid into the result's box -/
theorem box_fin {w u : World} {b4 n0 c0 c k : Nat} {A0 A : Option Addr} {R : List RO} (hM : Ms u A R) (hc : R.length ≤ c) (h4 : u.heap[b4]? = some (.cells #[.slice A0 n0 c0] 24 (0, 0))) (hb4 : w.heap.size ≤ b4) (hb : Below w.heap.size w u) :
    (loadVar 24 ⟨b4, 0, none⟩).run Tryz.prog (u.setCell ⟨b4, 0, none⟩ (.slice A R.length c)) = .ok (.agg #[.slice A R.length c]) (u.setCell ⟨b4, 0, none⟩ (.slice A R.length c)) ∧ MapE w (cts R, k) (.returned (.tuple #[.agg #[.slice A R.length c], .int .i64 (k : Int)])) (u.setCell ⟨b4, 0, none⟩ (.slice A R.length c)) :=
  ⟨load_map (one_setCell h4), A, c, R, rfl, hM.setBox h4 _, rfl, hc, hb.setCell (by show w.heap.size ≤ b4; omega) _⟩
set_option maxHeartbeats 4000000 in
set_option maxRecDepth 100000 in
theorem rdrop_any (A : Option Addr) (n c : Nat) (l : List RO) (id : Tx) (w : World) (hn : n = l.length) (h : Ms w A l) :
    Calls Tryz.prog 30 #[.agg #[.slice A n c], .string (mkB id)] w (MapE w (dropM (cts l) id)) := by
  have PM : Hid (dropM (cts l) id = if At.validM (cts l) then (if At.has (cts l) id then (At.dropF (cts l) id, 0) else ([], 11)) else ([], 1)) := Lib.hid rfl
  have HM := Lib.hid h
  have HN := Lib.hid hn
  obtain ⟨g, hg⟩ : ∃ g, g = w.heap.size := ⟨_, rfl⟩
  obtain ⟨X, hX⟩ : ∃ X, X = (w.alloc (.cells #[.slice A n c] 24)).alloc (.cells #[.slice none 0 0] 24) := ⟨_, rfl⟩
  have BX : Below w.heap.size w X := by rw [hX]; exact ((Below.refl _ _).alloc (Nat.le_refl _) _).alloc (by simp) _
  have X0 : X.heap[g]? = some (.cells #[.slice A n c] 24 (0, 0)) := by rw [hX, hg]; exact (alloc_old _ _ (by simp)).trans (heap_alloc_new w _)
  have X2 : X.heap[g + 1]? = some (.cells #[.slice none 0 0] 24 (0, 0)) := by rw [hX, hg]; exact alloc_new' _ _ _ (by simp)
  have XZ : X.heap.size = g + 2 := by rw [hX, hg]; simp
  have hgw : w.heap.size ≤ g := by omega
  have CF : Hid (∀ u, OldB X u → u.cell? ⟨g, 0, none⟩ = some (.slice A n c) ∧ u.cell? ⟨g + 1, 0, none⟩ = some (.slice none 0 0) ∧ u.frozen? ⟨g + 1, 0, none⟩ = false) := Lib.hid (fun u hu => by
    have h0 := (hu.block g (by omega)).trans X0
    have h2 := (hu.block (g + 1) (by omega)).trans X2
    exact ⟨cell_of_row u _ 0 _ _ _ h0, cell_of_row u _ 0 _ _ _ h2, free_blk h2 0⟩)
  have R4 : Hid (∀ u, OldB X u → u.heap[g + 1]? = some (.cells #[.slice none 0 0] 24 (0, 0))) := Lib.hid (fun u hu => (hu.block (g + 1) (by omega)).trans X2)
  have BB : Hid (∀ u, OldB X u → Below w.heap.size w u) := Lib.hid (fun u hu => BX.trans (Below.mono hu BX.size))
  have OX : Hid (OldB X X) := Lib.hid (Below.refl _ _)
  obtain ⟨k0, -, -⟩ := CF.out X OX.out
  clear X0 X2 BX h hn XZ
  go_enter Tryz.func30, Tryz.ntmps30
  go_upto_region 1 with fail
  rw [← hX]
  clear hX
  rw [← hg]
  clear hg
  go_wp2_with fail
  refine (rvalidm_any A c l n X HN.out (HM.out.below (BB.out _ OX.out))).mono ?_
  rintro e u1 ⟨rfl, b1⟩
  have O1 : Hid (OldB X u1) := Lib.hid b1
  clear b1 k0
  obtain ⟨k0, m0, fz⟩ := CF.out u1 O1.out
  cases hV : At.validM (cts l)
  · have FIN := box_fin (w := w) (b4 := g + 1) (c := 0) (k := 1) (A := none) (R := []) (Ms.nil u1) (Nat.le_refl _) (R4.out _ O1.out) (by omega) (BB.out _ O1.out)
    have PE : dropM (cts l) id = (cts [], 1) := by rw [PM.out, hV]; rfl
    rw [← PE] at FIN
    have FL := Lib.hid FIN.1
    have FR := Lib.hid FIN.2
    clear FIN PE
    go_wp2_with fail
    refine bodyPost_ret (results_cell2 (i := 4) (j := 5) rfl rfl FL.out rfl) rfl ?_
    exact FR.out
  · have SR : Hid (At.Srt (cts l)) := Lib.hid (At.validM_iff.1 hV).1
    clear m0 fz
    go_wp2_with fail
    refine (rfind_any A c l id n u1 HN.out (HM.out.below (BB.out _ O1.out))).mono ?_
    rintro e u2 ⟨rfl, b2⟩
    have O2 := Lib.hid (show OldB X u2 from OldB.then O1.out b2)
    clear b2 k0
    obtain ⟨k0, m0, fz⟩ := CF.out u2 O2.out
    cases hL : At.look (cts l) id with
    | none =>
      have z1 : findR (cts l) id = -1 := find_none hL
      have FIN := box_fin (w := w) (b4 := g + 1) (c := 0) (k := 11) (A := none) (R := []) (Ms.nil u2) (Nat.le_refl _) (R4.out _ O2.out) (by omega) (BB.out _ O2.out)
      have PE : dropM (cts l) id = (cts [], 11) := by rw [PM.out, hV]; unfold At.has; rw [hL]; rfl
      rw [← PE] at FIN
      have FL := Lib.hid FIN.1
      have FR := Lib.hid FIN.2
      rw [z1]
      clear FIN PE hL z1
      go_wp2_with fail
      refine bodyPost_ret (results_cell2 (i := 4) (j := 5) rfl rfl FL.out rfl) rfl ?_
      exact FR.out
    | some z =>
      obtain ⟨-, -, z1⟩ := find_some SR.out hL
      have PE : Hid (dropM (cts l) id = (woF (cts l) id, 0)) := Lib.hid (by rw [PM.out, hV, wo_drop SR.out]; unfold At.has; rw [hL]; rfl)
      have WO := Lib.hid (rwithout_any A n c l id u2 HN.out (HM.out.below (BB.out _ O2.out)))
      rw [z1]
      generalize At.pos (cts l) id = p at *
      have i1 : decide ((p : Int) < 0) = false := by simp
      clear hL z1 m0 fz
      go_wp2_with fail
      refine WO.out.mono ?_
      rintro e u3 ⟨A6, c6, R6, rfl, M6, he6, hc6, b6⟩
      have O3 := Lib.hid (show OldB X u3 from OldB.then O2.out b6)
      have FIN := box_fin (w := w) (b4 := g + 1) (k := 0) M6 hc6 (R4.out _ O3.out) (by omega) (BB.out _ O3.out)
      rw [he6, ← PE.out] at FIN
      have FL := Lib.hid FIN.1
      have FR := Lib.hid FIN.2
      obtain ⟨-, m0, fz⟩ := CF.out u3 O3.out
      clear FIN M6 he6 hc6 b6 WO k0 i1
      go_wp2_with fail
      refine bodyPost_ret (results_cell2 (i := 4) (j := 5) rfl rfl FL.out rfl) rfl ?_
      exact FR.out
set_option maxHeartbeats 4000000 in
set_option maxRecDepth 100000 in
theorem rput_any (A : Option Addr) (n c : Nat) (l : List RO) (x : RO) (w : World) (hn : n = l.length) (hl : n ≤ 99999) (h : Ms w A l) (hx : ObIs w x) (hs : ObSz x.c ∧ x.c.refs.length ≤ 100000) :
    Calls Tryz.prog 28 #[.agg #[.slice A n c], roA x] w (MapE w (putM (cts l) x.c)) := by
  have PM : Hid (putM (cts l) x.c = if At.validM (cts l) && At.validO x.c then (At.putF (cts l) x.c, 0) else ([], 1)) := Lib.hid rfl
  have HM := Lib.hid h
  have HN := Lib.hid hn
  have HX := Lib.hid hx
  have HS := Lib.hid hs
  obtain ⟨A1, q1, v1, -⟩ := hx.rs
  obtain ⟨A2, q2, v2, -⟩ := hx.ts
  obtain ⟨g, hg⟩ : ∃ g, g = w.heap.size := ⟨_, rfl⟩
  obtain ⟨X, hX⟩ : ∃ X, X = ((w.alloc (.cells #[.slice A n c] 24)).alloc (.cells #[.string (mkB x.c.id), .int .i64 x.c.kind, .int .i64 x.c.x, .int .i64 x.c.y, .slice A1 x.c.refs.length q1, .slice A2 x.c.tags.length q2] 43)).alloc (.cells #[.slice none 0 0] 24) := ⟨_, rfl⟩
  have BX : Below w.heap.size w X := by rw [hX]; exact (((Below.refl _ _).alloc (Nat.le_refl _) _).alloc (by simp) _).alloc (by simp; omega) _
  have X0 : X.heap[g]? = some (.cells #[.slice A n c] 24 (0, 0)) := by rw [hX, hg]; exact (alloc_old _ _ (by simp; omega)).trans ((alloc_old _ _ (by simp)).trans (heap_alloc_new w _))
  have X1 : X.heap[g + 1]? = some (.cells #[.string (mkB x.c.id), .int .i64 x.c.kind, .int .i64 x.c.x, .int .i64 x.c.y, .slice A1 x.c.refs.length q1, .slice A2 x.c.tags.length q2] 43 (0, 0)) := by rw [hX, hg]; exact (alloc_old _ _ (by simp)).trans (alloc_new' _ _ _ (by simp))
  have X2 : X.heap[g + 2]? = some (.cells #[.slice none 0 0] 24 (0, 0)) := by rw [hX, hg]; exact alloc_new' _ _ _ (by simp)
  have XZ : X.heap.size = g + 3 := by rw [hX, hg]; simp
  have hgw : w.heap.size ≤ g := by omega
  have CF : Hid (∀ u, OldB X u → u.cell? ⟨g + 1, 0, none⟩ = some (.string (mkB x.c.id)) ∧ u.cell? ⟨g + 1, 1, none⟩ = some (.int .i64 x.c.kind) ∧ u.cell? ⟨g + 1, 2, none⟩ = some (.int .i64 x.c.x) ∧ u.cell? ⟨g + 1, 3, none⟩ = some (.int .i64 x.c.y) ∧ u.cell? ⟨g + 1, 4, none⟩ = some (.slice A1 x.c.refs.length q1) ∧ u.cell? ⟨g + 1, 5, none⟩ = some (.slice A2 x.c.tags.length q2) ∧ u.cell? ⟨g, 0, none⟩ = some (.slice A n c) ∧ u.cell? ⟨g + 2, 0, none⟩ = some (.slice none 0 0) ∧ u.frozen? ⟨g + 2, 0, none⟩ = false) := Lib.hid (fun u hu => by
    have h0 := (hu.block g (by omega)).trans X0
    have h1 := (hu.block (g + 1) (by omega)).trans X1
    have h2 := (hu.block (g + 2) (by omega)).trans X2
    exact ⟨cell_of_row u _ 0 _ _ _ h1, cell_of_row u _ 1 _ _ _ h1, cell_of_row u _ 2 _ _ _ h1, cell_of_row u _ 3 _ _ _ h1, cell_of_row u _ 4 _ _ _ h1, cell_of_row u _ 5 _ _ _ h1, cell_of_row u _ 0 _ _ _ h0, cell_of_row u _ 0 _ _ _ h2, free_blk h2 0⟩)
  have R4 : Hid (∀ u, OldB X u → u.heap[g + 2]? = some (.cells #[.slice none 0 0] 24 (0, 0))) := Lib.hid (fun u hu => (hu.block (g + 2) (by omega)).trans X2)
  have BB : Hid (∀ u, OldB X u → Below w.heap.size w u) := Lib.hid (fun u hu => BX.trans (Below.mono hu BX.size))
  have OX : Hid (OldB X X) := Lib.hid (Below.refl _ _)
  have OV : Hid (∀ u, OldB X u → Calls Tryz.prog 67 #[roA x] u fun e w' => e = .returned (.bool (At.validO x.c)) ∧ Below u.heap.size u w') := Lib.hid (fun u hu => rvalid_any x u (hx.below (BB.out _ hu)) hs.1)
  have WI : Hid (At.Srt (cts l) → ∀ u, OldB X u → Calls Tryz.prog 68 #[.agg #[.slice A n c], roA x] u (MapP u (At.putF (cts l) x.c))) := Lib.hid (fun ho u hu => rwith_any A n c l x u HN.out hl (HM.out.below (BB.out _ hu)) (HX.out.below (BB.out _ hu)) HS.out ho)
  unfold roA at OV WI ⊢
  rw [v1, v2] at OV WI ⊢
  obtain ⟨-, -, -, -, -, -, k0, -, -⟩ := CF.out X OX.out
  clear X0 X1 X2 BX h hn XZ v1 v2 hx hs
  go_enter Tryz.func28, Tryz.ntmps28
  go_upto_region 1 with fail
  rw [← hX]
  clear hX
  rw [← hg]
  clear hg
  go_wp2_with fail
  refine (rvalidm_any A c l n X HN.out (HM.out.below (BB.out _ OX.out))).mono ?_
  rintro e u1 ⟨rfl, b1⟩
  have O1 : Hid (OldB X u1) := Lib.hid b1
  clear b1 k0
  obtain ⟨e0, e1, e2, e3, e4, e5, k0, m0, fz⟩ := CF.out u1 O1.out
  cases hV : At.validM (cts l)
  · have FIN := box_fin (w := w) (b4 := g + 2) (c := 0) (k := 1) (A := none) (R := []) (Ms.nil u1) (Nat.le_refl _) (R4.out _ O1.out) (by omega) (BB.out _ O1.out)
    have PE : putM (cts l) x.c = (cts [], 1) := by rw [PM.out, hV]; rfl
    rw [← PE] at FIN
    have FL := Lib.hid FIN.1
    have FR := Lib.hid FIN.2
    clear FIN PE
    go_wp2_with fail
    refine bodyPost_ret (results_cell2 (i := 4) (j := 5) rfl rfl FL.out rfl) rfl ?_
    exact FR.out
  · have SR : Hid (At.Srt (cts l)) := Lib.hid (At.validM_iff.1 hV).1
    clear m0 fz
    go_wp2_with fail
    refine (OV.out _ O1.out).mono ?_
    rintro e u2 ⟨rfl, b2⟩
    have O2 := Lib.hid (show OldB X u2 from OldB.then O1.out b2)
    clear b2 e0 e1 e2 e3 e4 e5 k0
    obtain ⟨e0, e1, e2, e3, e4, e5, k0, m0, fz⟩ := CF.out u2 O2.out
    cases hO : At.validO x.c
    · have FIN := box_fin (w := w) (b4 := g + 2) (c := 0) (k := 1) (A := none) (R := []) (Ms.nil u2) (Nat.le_refl _) (R4.out _ O2.out) (by omega) (BB.out _ O2.out)
      have PE : putM (cts l) x.c = (cts [], 1) := by rw [PM.out, hV, hO]; rfl
      rw [← PE] at FIN
      have FL := Lib.hid FIN.1
      have FR := Lib.hid FIN.2
      clear FIN PE
      go_wp2_with fail
      refine bodyPost_ret (results_cell2 (i := 4) (j := 5) rfl rfl FL.out rfl) rfl ?_
      exact FR.out
    · have PE : Hid (putM (cts l) x.c = (At.putF (cts l) x.c, 0)) := Lib.hid (by rw [PM.out, hV, hO]; rfl)
      have WC := Lib.hid (WI.out SR.out u2 O2.out)
      clear m0 fz
      go_wp2_with fail
      refine WC.out.mono ?_
      rintro e u3 ⟨A6, c6, R6, rfl, M6, he6, hc6, b6⟩
      have L6 := Lib.hid (Live.new M6 hc6)
      have LE : R6.length ≤ n + 1 := by rw [← cts_len R6, he6]; have := At.length_put_le SR.out x.c; rw [cts_len] at this; rw [HN.out]; exact this
      have d6 := b6.alloc b6.size (.cells #[.slice A6 R6.length c6] 24)
      have O3 := Lib.hid (show OldB X _ from OldB.then O2.out d6)
      have HE6 := Lib.hid he6
      have HC6 := Lib.hid hc6
      clear b6 d6 M6 he6 hc6 WC e0 e1 e2 e3 e4 e5 k0
      go_upto_region 4 with fail
      generalize u3.alloc (.cells #[.slice A6 R6.length c6] 24) = U at *
      generalize u3.heap.size = g6 at *
      have FIN := box_fin (w := w) (b4 := g + 2) (k := 0) L6.out.ms HC6.out (R4.out _ O3.out) (by omega) (BB.out _ O3.out)
      rw [HE6.out, ← PE.out] at FIN
      have FL := Lib.hid FIN.1
      have FR := Lib.hid FIN.2
      have k6 := L6.out.cell
      obtain ⟨-, -, -, -, -, -, -, m0, fz⟩ := CF.out U O3.out
      have g1 : decide ((1000000 : Int) < (R6.length : Int)) = false := by simp; omega
      clear FIN
      go_wp2_with fail
      refine bodyPost_ret (results_cell2 (i := 4) (j := 5) rfl rfl FL.out rfl) rfl ?_
      exact FR.out
set_option maxHeartbeats 4000000 in
set_option maxRecDepth 100000 in
theorem rdigestm_any (A : Option Addr) (n c : Nat) (l : List RO) (w : World) (hn : n = l.length) (hl3 : n ≤ 300) (h : Ms w A l) (hsm : ∀ r ∈ l, Sml r.c) :
    Calls Tryz.prog 42 #[.agg #[.slice A n c]] w fun e w' => e = .returned (.string (mkB (digestM (cts l)))) ∧ Below w.heap.size w w' := by
  have PM : Hid (digestM (cts l) = if At.validM (cts l) then Dg.sumL (Dg.joined ((cts l).map digestF)) else []) := Lib.hid rfl
  have HM := Lib.hid h
  have HN := Lib.hid hn
  have HS := Lib.hid hsm
  obtain ⟨X, hX⟩ : ∃ X, X = w.alloc (.cells #[.slice A n c] 24) := ⟨_, rfl⟩
  have HB : Hid (Below w.heap.size w X) := Lib.hid (by rw [hX]; exact (Below.refl _ _).alloc (Nat.le_refl _) _)
  have X0 : Hid (X.heap[w.heap.size]? = some (.cells #[.slice A n c] 24 (0, 0))) := Lib.hid (by rw [hX]; exact heap_alloc_new w _)
  have XZ : X.heap.size = w.heap.size + 1 := by rw [hX]; simp
  have CK : Hid (∀ u, OldB X u → u.cell? ⟨w.heap.size, 0, none⟩ = some (.slice A n c) ∧ Below w.heap.size w u) := Lib.hid (fun u hu => by
    have := cell_of_row u w.heap.size 0 _ _ _ ((hu.block _ (by omega)).trans X0.out)
    exact ⟨by simpa using this, HB.out.trans (Below.mono hu HB.out.size)⟩)
  have OX : Hid (OldB X X) := Lib.hid (Below.refl _ _)
  have te := mkB_tl []
  have em : (ByteArray.mk #[]) = mkB [] := rfl
  obtain ⟨k0, -⟩ := CK.out X OX.out
  generalize digestM (cts l) = R at *
  clear h hn hsm X0
  go_enter Tryz.func42, Tryz.ntmps42
  go_upto_region 1 with fail
  rw [← hX]
  clear hX
  go_wp2_with fail
  refine (rvalidm_any A c l n X HN.out (HM.out.below HB.out)).mono ?_
  rintro e u1 ⟨rfl, b1⟩
  have O1 : Hid (OldB X u1) := Lib.hid b1
  clear b1 k0
  obtain ⟨k0, B1⟩ := CK.out u1 O1.out
  have B1 := Lib.hid B1
  cases hV : At.validM (cts l)
  · have PE : Hid (R = []) := Lib.hid (by rw [PM.out, hV]; rfl)
    go_wp2_with fail
    go_ret
    exact ⟨by rw [PE.out]; rfl, B1.out⟩
  · have PE : Hid (R = Dg.sumL (Dg.joined ((cts l).map digestF))) := Lib.hid (by rw [PM.out, hV]; rfl)
    have GD := Lib.hid (rdigests_any A n c l u1 HN.out hl3 (HM.out.below B1.out) HS.out)
    have LN : Hid (((cts l).map digestF).length ≤ 300 ∧ ∀ s ∈ (cts l).map digestF, s.length ≤ 300) := Lib.hid ⟨by rw [List.length_map, cts_len, ← HN.out]; exact hl3, fun s hs => by
      obtain ⟨o, -, rfl⟩ := List.mem_map.1 hs
      have := digestF_len o; omega⟩
    generalize (cts l).map digestF = LD at *
    go_wp2_with fail
    refine GD.out.mono ?_
    rintro e u2 ⟨A5, c5, rfl, r5, b5⟩
    have B2 := Lib.hid (B1.out.trans (Below.mono b5 B1.out.size))
    have LD2 := Lib.hid (rlistT_any A5 LD.length c5 LD u2 rfl LN.out.1 LN.out.2 r5)
    clear r5 b5 GD k0
    go_wp2_with fail
    refine LD2.out.mono ?_
    rintro e u3 ⟨rfl, b6⟩
    have B3 := Lib.hid (B2.out.trans (Below.mono b6 B2.out.size))
    clear b6 LD2
    go_wp2_with fail
    go_ret
    exact ⟨by rw [PE.out]; rfl, B3.out⟩
set_option maxHeartbeats 4000000 in
set_option maxRecDepth 100000 in
theorem rin_any (A : Option Addr) (n c : Nat) (l : List Tx) (s : Tx) (w : World) (hn : n = l.length) (hl : n ≤ 1000000) (h : Rd w A (strsC l)) :
    Calls Tryz.prog 75 #[.slice A n c, .string (mkB s)] w fun e w' => e = .returned (.bool (decide (s ∈ l))) ∧ w' = w := by
  have H := Lib.hid h
  have HN := Lib.hid hn
  clear h hn
  obtain ⟨R, hR⟩ : ∃ R, decide (s ∈ l) = R := ⟨_, rfl⟩
  have HR := Lib.hid hR.symm
  rw [hR]
  clear hR
  have ts := mkB_tl s
  go_enter Tryz.func75, Tryz.ntmps75
  go_wp2_with fail
  go_loop [5] (fun s5 => ∃ k : Nat, k ≤ n ∧ s5 = .int .i64 (k : Int) ∧ Hid (∀ i (h : i < l.length), i < k → l[i] ≠ s)) (fun i => n - (intOf i).toNat)
  case atStart => exact ⟨0, Nat.zero_le _, rfl, Lib.hid (fun i _ h => absurd h (Nat.not_lt_zero _))⟩
  case round =>
    obtain ⟨k, hk, rfl, INV⟩ := hrel
    by_cases hlt : k < n
    · have hkl : k < l.length := by rw [← HN.out]; exact hlt
      have d1 : (k : Int) < (n : Int) := by omega
      have d2 : (0 : Int) ≤ (k : Int) := by omega
      have k8 : IntKind.i64.wrap ((k : Int) + 1) = (k : Int) + 1 := IntWalk.i64_in _ (by omega)
      obtain ⟨b, off, rfl, hb, c0⟩ := strs_at H.out hkl
      have NX : Hid (l[k] ≠ s → ∀ i (h : i < l.length), i < k + 1 → l[i] ≠ s) := Lib.hid (fun hc i hi hik => by
        rcases Nat.lt_succ_iff_lt_or_eq.1 hik with h1 | h1
        · exact INV.out i hi h1
        · subst h1; exact hc)
      have FD : Hid (l[k] = s → R = true) := Lib.hid (fun h => by rw [HR.out, decide_eq_true]; rw [← h]; exact List.getElem_mem hkl)
      generalize l[k] = x at *
      have t0 := mkB_tl x
      by_cases e : x = s
      · have ee : (x == s) = true := by rw [e]; simp
        have RT := Lib.hid (FD.out e)
        clear e FD NX INV
        go_wp2_with fail
        go_ret
        exact ⟨by rw [RT.out]; rfl, rfl⟩
      · have ee : (x == s) = false := by simpa using e
        have NX2 := Lib.hid (NX.out e)
        clear e FD NX INV
        go_wp2_with fail
        go_round
        case rel => exact ⟨k + 1, by omega, by go_num, NX2⟩
        case measure => simp [intOf]; omega
    · obtain rfl : k = n := by omega
      have dk : decide ((k : Int) < (k : Int)) = false := by simp
      have RT : Hid (R = false) := Lib.hid (by
        rw [HR.out, decide_eq_false]
        intro hm
        obtain ⟨i, hi, e⟩ := List.mem_iff_getElem.1 hm
        exact INV.out i hi (by rw [HN.out]; exact hi) e)
      clear hlt INV
      go_wp2_with fail
      go_ret
      exact ⟨by rw [RT.out]; rfl, rfl⟩
end Go.Proofs.YtlejeelmlclnkaaGreatDoor
namespace Go.Proofs.YtlejeelmlclnkaaGreatDoor
open Go.RowKit

set_option maxHeartbeats 4000000 in
set_option maxRecDepth 100000 in
theorem rrefers_any (A : Option Addr) (n c : Nat) (l : List RO) (id : Tx) (w : World) (hn : n = l.length) (h : Ms w A l) :
    Calls Tryz.prog 40 #[.agg #[.slice A n c], .string (mkB id)] w (StrsE w (refersM (cts l) id)) := by
  have hl : n ≤ 100000 := by rw [hn]; exact h.len
  have PM : Hid (refersM (cts l) id = if At.validM (cts l) then refersL (cts l) id else []) := Lib.hid rfl
  have HM := Lib.hid h
  have HN := Lib.hid hn
  obtain ⟨X, hX⟩ : ∃ X, X = w.alloc (.cells #[.slice A n c] 24) := ⟨_, rfl⟩
  have HB : Hid (Below w.heap.size w X) := Lib.hid (by rw [hX]; exact (Below.refl _ _).alloc (Nat.le_refl _) _)
  have X0 : Hid (X.heap[w.heap.size]? = some (.cells #[.slice A n c] 24 (0, 0))) := Lib.hid (by rw [hX]; exact heap_alloc_new w _)
  have XZ : X.heap.size = w.heap.size + 1 := by rw [hX]; simp
  have CK : Hid (∀ u, OldB X u → u.cell? ⟨w.heap.size, 0, none⟩ = some (.slice A n c) ∧ Below w.heap.size w u) := Lib.hid (fun u hu => by
    have := cell_of_row u w.heap.size 0 _ _ _ ((hu.block _ (by omega)).trans X0.out)
    exact ⟨by simpa using this, HB.out.trans (Below.mono hu HB.out.size)⟩)
  have OX : Hid (OldB X X) := Lib.hid (Below.refl _ _)
  obtain ⟨k0, -⟩ := CK.out X OX.out
  clear h hn X0
  go_enter Tryz.func40, Tryz.ntmps40
  go_upto_region 1 with fail
  rw [← hX]
  clear hX
  go_wp2_with fail
  refine (rvalidm_any A c l n X HN.out (HM.out.below HB.out)).mono ?_
  rintro e u1 ⟨rfl, b1⟩
  have O1 : Hid (OldB X u1) := Lib.hid b1
  clear b1 k0
  obtain ⟨k0, B1⟩ := CK.out u1 O1.out
  have B1 := Lib.hid B1
  cases hV : At.validM (cts l)
  · have PE : Hid (refersM (cts l) id = []) := Lib.hid (by rw [PM.out, hV]; rfl)
    go_wp2_with fail
    go_ret
    exact ⟨none, 0, by rw [PE.out]; rfl, by rw [PE.out]; exact Rd.nil_ _ _, B1.out⟩
  · have PE : Hid (refersM (cts l) id = refersL (cts l) id) := Lib.hid (by rw [PM.out, hV]; rfl)
    have ST : Hid (u1.ownsRow u1.heap.size 9 1 (.slice none 0 0) (refersL (cts (l.take 0)) id).length (strsC (refersL (cts (l.take 0)) id))) := Lib.hid (World.ownsRow_nil _ _ _ _)
    have OU : Hid (OldB u1 u1) := Lib.hid (Below.refl _ _)
    have CW : Hid (∀ u, OldB u1 u → u.cell? ⟨w.heap.size, 0, none⟩ = some (.slice A n c) ∧ Below w.heap.size w u) := Lib.hid (fun u hu => CK.out u (OldB.then O1.out hu))
    clear PM
    go_wp2_with fail
    go_loopw [5, 6] (fun s5 s6 wr => ∃ k : Nat, k ≤ n ∧ s6 = .int .i64 (k : Int) ∧ Hid (wr.ownsRow u1.heap.size 9 1 s5 (refersL (cts (l.take k)) id).length (strsC (refersL (cts (l.take k)) id))) ∧ Hid (OldB u1 wr)) (fun _ i _ => n - (intOf i).toNat)
    case atStart => exact ⟨0, Nat.zero_le _, rfl, ST, OU⟩
    case round =>
      clear ST OU k0
      obtain ⟨k, hk, rfl, OW, OB⟩ := hrel
      obtain ⟨k0, BL⟩ := CW.out wr OB.out
      have BL := Lib.hid BL
      obtain ⟨A7, c7, hv7, -⟩ := own_sl OW.out
      subst hv7
      by_cases hlt : k < n
      · have hkl : k < l.length := by rw [← HN.out]; exact hlt
        have d1 : (k : Int) < (n : Int) := by omega
        have d2 : (0 : Int) ≤ (k : Int) := by omega
        have k8 : IntKind.i64.wrap ((k : Int) + 1) = (k : Int) + 1 := IntWalk.i64_in _ (by omega)
        obtain ⟨b, off, rfl, hb, c0, c1, c2, c3, c4, c5⟩ := ros_at (HM.out.rd.below BL.out) hkl
        have HO := HM.out.ob l[k] (List.getElem_mem hkl)
        have SZ := (HM.out.sz l[k] (List.getElem_mem hkl)).1
        have TK := Lib.hid (refersL_take l id hkl)
        have LE := refersL_len l id k
        obtain ⟨L2, hL2⟩ : ∃ L2, refersL (cts (l.take (k + 1))) id = L2 := ⟨_, rfl⟩
        have HL2 := Lib.hid hL2
        rw [hL2] at TK
        clear hL2
        generalize refersL (cts (l.take k)) id = L at *
        generalize l[k] = x at *
        obtain ⟨A1, q1, v1, r1⟩ := HO.rs
        rw [v1] at c4
        have IN := Lib.hid (rin_any A1 x.c.refs.length q1 x.c.refs id wr rfl SZ.refs (r1.below BL.out))
        clear HO SZ v1 r1 c1 c2 c3 c5
        go_wp2_with fail
        refine IN.out.mono ?_
        rintro e w1 ⟨rfl, rfl⟩
        cases hd : decide (id ∈ x.c.refs)
        · have T2 := Lib.hid (TK.out.trans (by rw [hd, if_neg (by simp), List.append_nil]))
          clear TK IN hd
          go_wp2_with fail
          exact ⟨⟨k + 1, by omega, by go_num, Lib.hid (by rw [HL2.out, T2.out]; exact OW.out), OB⟩, by simp [intOf]; omega⟩
        · have T2 := Lib.hid (TK.out.trans (by rw [hd, if_pos rfl]))
          have bz := Below.size OB.out
          clear TK IN hd
          go_wp2_with (at_builtin; refine wpList_appN rfl (.tmp 26) (.tmp 33) 40 rfl Tryz.underlying40 info_str rfl (by decide) u1.heap.size _ L.length (strsC L) _ 1 (by decide) rfl (by intro y hy; simp at hy; rw [hy]; rfl) rfl rfl rfl OW.out bz (by omega) (by omega) ?_; intro g7 c7 w7 ho7 hg7 hl7 hb7)
          refine ⟨⟨k + 1, by omega, by go_num, ?_, Lib.hid (Below.trans OB.out hb7)⟩, by simp [intOf]; omega⟩
          rw [HL2.out, T2.out, List.length_append, strsC_app]
          exact Lib.hid ho7
      · have d1 : ¬ (k : Int) < (n : Int) := by omega
        have TT : Hid (l.take k = l) := Lib.hid (List.take_of_length_le (by rw [← HN.out]; omega))
        have PE2 : Hid (refersM (cts l) id = refersL (cts (l.take k)) id) := Lib.hid (by rw [PE.out, TT.out])
        obtain ⟨A5, c5, hv5, hr5⟩ := own_sl OW.out
        have R5 : Hid (Rd wr A7 (strsC (refersL (cts (l.take k)) id))) := Lib.hid (by injection hv5 with h1 h2 h3; rw [h1]; exact hr5)
        clear hr5 OW hv5 TT
        go_wp2_with fail
        go_ret
        exact ⟨A7, c7, by rw [PE2.out]; rfl, by rw [PE2.out]; exact R5.out, BL.out⟩
set_option maxHeartbeats 8000000 in
set_option maxRecDepth 100000 in
theorem rpoints_any (A : Option Addr) (n c : Nat) (l : List RO) (id : Tx) (w : World) (hn : n = l.length) (h : Ms w A l) :
    Calls Tryz.prog 32 #[.agg #[.slice A n c], .string (mkB id)] w (PtsE w (pointsM (cts l) id)) := by
  have hl : n ≤ 100000 := by rw [hn]; exact h.len
  have PM : Hid (pointsM (cts l) id = if At.validM (cts l) then (match At.look (cts l) id with | none => ([], 11) | some o => if o.kind = 1 then ([(o.x, o.y)], 0) else if o.kind = 2 ∨ o.kind = 3 then (match ptsF (cts l) o.refs with | some P => (P, 0) | none => ([], 14)) else ([], 13)) else ([], 1)) := Lib.hid rfl
  have ERR : Hid (∀ (w1 : World) (k : Nat), Below w.heap.size w w1 → pointsM (cts l) id = ([], k) → PtsE w (pointsM (cts l) id) (.returned (.tuple #[.slice none 0 0, .int .i64 (k : Int)])) w1) := Lib.hid (fun w1 k hb e => by
    rw [e]; exact ⟨none, 0, rfl, Rd.nil_ _ _, hb⟩)
  have HM := Lib.hid h
  have HN := Lib.hid hn
  obtain ⟨X, hX⟩ : ∃ X, X = w.alloc (.cells #[.slice A n c] 24) := ⟨_, rfl⟩
  have HB : Hid (Below w.heap.size w X) := Lib.hid (by rw [hX]; exact (Below.refl _ _).alloc (Nat.le_refl _) _)
  have X0 : Hid (X.heap[w.heap.size]? = some (.cells #[.slice A n c] 24 (0, 0))) := Lib.hid (by rw [hX]; exact heap_alloc_new w _)
  have XZ : X.heap.size = w.heap.size + 1 := by rw [hX]; simp
  have CF : Hid (∀ u, OldB X u → u.cell? ⟨w.heap.size, 0, none⟩ = some (.slice A n c)) := Lib.hid (fun u hu => by
    have := cell_of_row u w.heap.size 0 _ _ _ ((hu.block _ (by omega)).trans X0.out)
    simpa using this)
  have BB : Hid (∀ u, OldB X u → Below w.heap.size w u) := Lib.hid (fun u hu => HB.out.trans (Below.mono hu HB.out.size))
  have OX : Hid (OldB X X) := Lib.hid (Below.refl _ _)
  have k0 := CF.out X OX.out
  clear h hn X0
  go_enter Tryz.func32, Tryz.ntmps32
  go_upto_region 1 with fail
  rw [← hX]
  clear hX
  go_wp2_with fail
  refine (rvalidm_any A c l n X HN.out (HM.out.below HB.out)).mono ?_
  rintro e u1 ⟨rfl, b1⟩
  have O1 : Hid (OldB X u1) := Lib.hid b1
  clear b1 k0
  have k0 := CF.out u1 O1.out
  cases hV : At.validM (cts l)
  · have PE : Hid (pointsM (cts l) id = ([], 1)) := Lib.hid (by rw [PM.out, hV]; rfl)
    go_wp2_with fail
    go_ret2
    exact ERR.out _ 1 (BB.out _ O1.out) PE.out
  · have SR : Hid (At.Srt (cts l)) := Lib.hid (At.validM_iff.1 hV).1
    have FN := Lib.hid (fun (r : Tx) (u : World) (hu : OldB X u) => rfind_any A c l r n u HN.out (HM.out.below (BB.out _ hu)))
    go_wp2_with fail
    refine (FN.out id _ O1.out).mono ?_
    rintro e u3 ⟨rfl, b3⟩
    have O3 := Lib.hid (show OldB X u3 from OldB.then O1.out b3)
    clear b3 k0
    have k0 := CF.out u3 O3.out
    cases hH : At.look (cts l) id with
    | none =>
      have z1 : findR (cts l) id = -1 := find_none hH
      rw [z1]
      have PE : Hid (pointsM (cts l) id = ([], 11)) := Lib.hid (by rw [PM.out, hV, if_pos rfl, hH])
      clear z1
      go_wp2_with fail
      go_ret2
      exact ERR.out _ 11 (BB.out _ O3.out) PE.out
    | some z =>
      obtain ⟨-, -, z1⟩ := find_some SR.out hH
      have PE : Hid (pointsM (cts l) id = if z.kind = 1 then ([(z.x, z.y)], 0) else if z.kind = 2 ∨ z.kind = 3 then (match ptsF (cts l) z.refs with | some P => (P, 0) | none => ([], 14)) else ([], 13)) := Lib.hid (by rw [PM.out, hV, if_pos rfl, hH])
      obtain ⟨hp, hz⟩ := look_pos SR.out hH
      rw [z1]
      generalize At.pos (cts l) id = p at *
      have hpn : p < n := by rw [HN.out]; exact hp
      have d1 : (p : Int) < (n : Int) := by omega
      have d2 : (0 : Int) ≤ (p : Int) := by omega
      have d3 : decide ((p : Int) < 0) = false := by simp
      obtain ⟨b, off, rfl, hb, c0, c1, c2, c3, c4, c5⟩ := ros_at (HM.out.rd.below (BB.out _ O3.out)) hp
      have HO := HM.out.ob l[p] (List.getElem_mem hp)
      have SZ := (HM.out.sz l[p] (List.getElem_mem hp)).2
      generalize l[p] = x at *
      subst hz
      obtain ⟨A1, q1, v1, r1⟩ := HO.rs
      obtain ⟨A2, q2, v2, -⟩ := HO.ts
      rw [v1] at c4
      rw [v2] at c5
      have BX : Hid (Below u3.heap.size u3 (u3.alloc (.cells #[.string (mkB x.c.id), .int .i64 x.c.kind, .int .i64 x.c.x, .int .i64 x.c.y, .slice A1 x.c.refs.length q1, .slice A2 x.c.tags.length q2] 43))) := Lib.hid ((Below.refl _ _).alloc (Nat.le_refl _) _)
      have XX := Lib.hid (heap_alloc_new u3 (.cells #[.string (mkB x.c.id), .int .i64 x.c.kind, .int .i64 x.c.x, .int .i64 x.c.y, .slice A1 x.c.refs.length q1, .slice A2 x.c.tags.length q2] 43))
      have RR := Lib.hid r1
      clear HO v1 v2 r1 PM z1 hH
      go_upto_region 7 with fail
      generalize hY : u3.alloc (.cells #[.string (mkB x.c.id), .int .i64 x.c.kind, .int .i64 x.c.x, .int .i64 x.c.y, .slice A1 x.c.refs.length q1, .slice A2 x.c.tags.length q2] 43) = Y at *
      have OY := Lib.hid (show OldB X Y from OldB.then O3.out BX.out)
      obtain ⟨g, hg⟩ : ∃ g, u3.heap.size = g := ⟨_, rfl⟩
      have YZ : g < Y.heap.size := by rw [← hg]; exact lt_of_block' XX.out
      rw [hg] at XX ⊢
      have YC : Hid (∀ u, OldB Y u → u.cell? ⟨g, 1, none⟩ = some (.int .i64 x.c.kind) ∧ u.cell? ⟨g, 2, none⟩ = some (.int .i64 x.c.x) ∧ u.cell? ⟨g, 3, none⟩ = some (.int .i64 x.c.y) ∧ u.cell? ⟨g, 4, none⟩ = some (.slice A1 x.c.refs.length q1)) := Lib.hid (fun u hu => by
        have h := (hu.block g YZ).trans XX.out
        have y1 := cell_of_row u g 1 _ _ _ h
        have y2 := cell_of_row u g 2 _ _ _ h
        have y3 := cell_of_row u g 3 _ _ _ h
        have y4 := cell_of_row u g 4 _ _ _ h
        simp at y1 y2 y3 y4
        exact ⟨y1, y2, y3, y4⟩)
      have OYY : Hid (OldB Y Y) := Lib.hid (Below.refl _ _)
      obtain ⟨y1, y2, y3, y4⟩ := YC.out Y OYY.out
      clear c0 c1 c2 c3 c4 c5 k0 XX hY hg BX d3
      by_cases q1' : x.c.kind = 1
      · have P1 : Hid (pointsM (cts l) id = ([(x.c.x, x.c.y)], 0)) := Lib.hid (by rw [PE.out, if_pos q1'])
        rw [q1'] at y1
        clear PE q1'
        go_wp2_with fail
        go_ret2
        refine ⟨some ⟨Y.heap.size, 0, none⟩, 1, by rw [P1.out]; rfl, ?_, ((BB.out _ OY.out).alloc (BB.out _ OY.out).size _)⟩
        rw [P1.out]
        exact Rd.of_row (heap_alloc_new Y _) (List.prefix_refl _)
      · have e1 : (x.c.kind == 1) = false := by simpa using q1'
        by_cases q2' : x.c.kind = 2 ∨ x.c.kind = 3
        · have P1 : Hid (pointsM (cts l) id = (match ptsF (cts l) x.c.refs with | some P => (P, 0) | none => ([], 14))) := Lib.hid (by rw [PE.out, if_neg q1', if_pos q2'])
          have ST : Hid (ptsF (cts l) x.c.refs = (ptsF (cts l) (x.c.refs.drop 0)).map (([] : List Pt2) ++ ·)) := Lib.hid (by simp)
          have S0 : Hid (Y.ownsRow Y.heap.size 39 2 (.slice none 0 0) ([] : List Pt2).length (ptsC [])) := Lib.hid (World.ownsRow_nil _ _ _ _)
          clear PE
          have m0 : x.c.refs.length ≤ 100000 := SZ
          obtain ⟨m, hm⟩ : ∃ m, x.c.refs.length = m := ⟨_, rfl⟩
          have HMm := Lib.hid hm
          rw [hm] at y4 m0 YC
          clear hm
          rcases q2' with q2' | q2'
          all_goals
            rw [q2'] at y1
            clear e1 q1' q2'
            have k0 := CF.out Y OY.out
            go_wp2_with fail
            go_loopw [8, 9] (fun s8 s9 wr => ∃ (k : Nat) (P : List Pt2), k ≤ m ∧ Hid (P.length ≤ k) ∧ s9 = .int .i64 (k : Int) ∧ Hid (ptsF (cts l) x.c.refs = (ptsF (cts l) (x.c.refs.drop k)).map (P ++ ·)) ∧ Hid (wr.ownsRow Y.heap.size 39 2 s8 P.length (ptsC P)) ∧ Hid (OldB Y wr)) (fun _ i _ => m - (intOf i).toNat)
            case atStart => exact ⟨0, [], Nat.zero_le _, Lib.hid (Nat.zero_le _), rfl, ST, S0, OYY⟩
            case round =>
              clear ST S0 OYY k0 y1 y2 y3 y4
              obtain ⟨k, P, hk, hPk, rfl, ST, OW, OB⟩ := hrel
              obtain ⟨A7, c7, hv7, -⟩ := own_sl OW.out
              subst hv7
              have OX1 := Lib.hid (show OldB X wr from OldB.then OY.out OB.out)
              obtain ⟨-, -, -, y4⟩ := YC.out wr OB.out
              by_cases hlt : k < m
              · have hkl : k < x.c.refs.length := by rw [HMm.out]; exact hlt
                have f1 : (k : Int) < (m : Int) := by omega
                have f2 : (0 : Int) ≤ (k : Int) := by omega
                have k8 : IntKind.i64.wrap ((k : Int) + 1) = (k : Int) + 1 := IntWalk.i64_in _ (by omega)
                obtain ⟨b1, off1, rfl, hb1, g0⟩ := strs_at (RR.out.below (BB.out _ OX1.out)) hkl
                have G0 : ∀ u, OldB Y u → u.cell? ⟨b1, off1 + k, none⟩ = some (.string (mkB x.c.refs[k])) := fun u hu => by
                  obtain ⟨b', off', e', hb', q0⟩ := strs_at (RR.out.below (BB.out _ (OldB.then OY.out hu))) hkl
                  obtain ⟨rfl, rfl⟩ : b1 = b' ∧ off1 = off' := by injection e' with e'; injection e' with e1 e2; exact ⟨e1, e2⟩
                  exact q0
                have Y4 : ∀ u, OldB Y u → u.cell? ⟨g, 4, none⟩ = some (.slice (some ⟨b1, off1, none⟩) m q1) := fun u hu => (YC.out u hu).2.2.2
                have K0 : ∀ u, OldB Y u → u.cell? ⟨w.heap.size, 0, none⟩ = some (.slice (some ⟨b, off, none⟩) n c) := fun u hu => CF.out u (OldB.then OY.out hu)
                have SK : Hid (ptsF (cts l) (x.c.refs.drop k) = (match At.look (cts l) x.c.refs[k] with | some z => if z.kind = 1 then (ptsF (cts l) (x.c.refs.drop (k + 1))).map ((z.x, z.y) :: ·) else none | none => none)) := Lib.hid (by rw [List.drop_eq_getElem_cons hkl, ptsF]; rfl)
                clear g0
                generalize x.c.refs[k] = r at *
                go_upto_region 15 with fail
                clear y4
                (refine wp_region_noPanic ?_; refine wp_region_held_drew (S := (OldB Y)) (by kernel_rfl) ?_ (fun hHeld => ?_); exact Below.drew OB.out)
                (refine tkW 0 ?_; try simp only [gmS])
                (refine tkW 1 ?_; try simp only [gmS])
                (refine tkW 2 ?_; try simp only [gmS])
                (refine tkW 3 ?_; try simp only [gmS])
                (refine tkW 4 ?_; try simp only [gmS])
                (refine tkW 5 ?_; try simp only [gmS])
                (refine rdW 6 (fun K hK => ?_); go_simp)
                refine (FN.out r _ (OldB.then OY.out hHeld)).mono ?_
                rintro e w1 ⟨rfl, b1'⟩
                have OW1 := Lib.hid (own_same OW.out (fun q hq => b1'.block q (OW.out.lt q hq).2))
                (refine hK.out _ _ (OldB.then hHeld b1') (fun hHeld2 => ?_); clear hK K hHeld; have hHeld := hHeld2; clear hHeld2; try simp only [gmS])
                (refine tkW 7 ?_; try simp only [gmS])
                have OB1 : Hid (OldB Y w1) := Lib.hid hHeld
                (refine wpAnyH_done (by kernel_rfl) ?_ _; refine NoPanic.normal ?_)
                clear hHeld b1' OW OX1 OB G0 Y4 K0
                have OX2 := Lib.hid (show OldB X w1 from OldB.then OY.out OB1.out)
                have k1 := CF.out w1 OX2.out
                cases hL : At.look (cts l) r with
                | none =>
                  have z1 : findR (cts l) r = -1 := find_none hL
                  rw [z1]
                  have P2 : Hid (pointsM (cts l) id = ([], 14)) := Lib.hid (by rw [P1.out, ST.out, SK.out, hL]; rfl)
                  clear ST SK z1 hL
                  go_wp2_with fail
                  go_ret2
                  exact ERR.out _ 14 (BB.out _ OX2.out) P2.out
                | some z2 =>
                  obtain ⟨-, -, z1⟩ := find_some SR.out hL
                  obtain ⟨hp2, hz2⟩ := look_pos SR.out hL
                  rw [z1]
                  generalize At.pos (cts l) r = p2 at *
                  have hpn2 : p2 < n := by rw [HN.out]; exact hp2
                  have f3 : (p2 : Int) < (n : Int) := by omega
                  have f4 : (0 : Int) ≤ (p2 : Int) := by omega
                  have f5 : decide ((p2 : Int) < 0) = false := by simp
                  obtain ⟨b', off', hA', hb', c0, c1, c2, c3, c4, c5⟩ := ros_at (HM.out.rd.below (BB.out _ OX2.out)) hp2
                  injection hA' with hA'
                  injection hA' with hA1 hA2 _
                  subst hA1 hA2
                  rw [hz2] at c1 c2 c3
                  clear c0 c4 c5 hz2 z1
                  by_cases qk : z2.kind = 1
                  · have e5 : (z2.kind != 1) = false := by rw [qk]; rfl
                    have ST2 : Hid (ptsF (cts l) x.c.refs = (ptsF (cts l) (x.c.refs.drop (k + 1))).map ((P ++ [(z2.x, z2.y)]) ++ ·)) := Lib.hid (by
                      rw [ST.out, SK.out, hL]
                      simp only [qk, if_true]
                      cases ptsF (cts l) (x.c.refs.drop (k + 1)) <;> simp)
                    have bz := Below.size OB1.out
                    have lp : P.length ≤ 100000 := by have := hPk.out; omega
                    clear ST SK qk hL
                    go_wp2_with (at_builtin; refine wpList_appN rfl (.tmp 63) (.tmp 70) 58 rfl Tryz.underlying58 info_pt rfl (by decide) Y.heap.size _ P.length (ptsC P) _ 1 (by decide) rfl (by intro y hy; simp at hy; rcases hy with rfl | rfl <;> rfl) rfl rfl rfl OW1.out bz (by omega) (by omega) ?_; intro g7 c7 w7 ho7 hg7 hl7 hb7)
                    refine ⟨⟨k + 1, P ++ [(z2.x, z2.y)], by omega, Lib.hid (by have := hPk.out; simp; omega), by go_num, ST2, ?_, Lib.hid (Below.trans OB1.out hb7)⟩, by simp [intOf]; omega⟩
                    rw [List.length_append, ptsC_app]
                    exact Lib.hid ho7
                  · have e5 : (z2.kind != 1) = true := by simpa using qk
                    have P2 : Hid (pointsM (cts l) id = ([], 14)) := Lib.hid (by rw [P1.out, ST.out, SK.out, hL]; simp [qk])
                    clear ST SK qk hL
                    go_wp2_with fail
                    go_ret2
                    exact ERR.out _ 14 (BB.out _ OX2.out) P2.out
              · have f1 : ¬ (k : Int) < (m : Int) := by omega
                have P2 : Hid (pointsM (cts l) id = (P, 0)) := Lib.hid (by rw [P1.out, ST.out, List.drop_eq_nil_of_le (by rw [HMm.out]; omega)]; simp [ptsF])
                obtain ⟨A5, c5, hv5, hr5⟩ := own_sl OW.out
                have R5 : Hid (Rd wr A7 (ptsC P)) := Lib.hid (by injection hv5 with h1 h2 h3; rw [h1]; exact hr5)
                clear hr5 OW ST P1 hv5
                go_wp2_with fail
                go_ret2
                exact ⟨A7, c7, by rw [P2.out]; rfl, by rw [P2.out]; exact R5.out, BB.out _ OX1.out⟩
        · have P1 : Hid (pointsM (cts l) id = ([], 13)) := Lib.hid (by rw [PE.out, if_neg q1', if_neg q2'])
          have e2 : (x.c.kind != 2) = true := by simp; exact fun e => q2' (.inl e)
          have e3 : (x.c.kind != 3) = true := by simp; exact fun e => q2' (.inr e)
          clear PE q1' q2'
          go_wp2_with fail
          go_ret2
          exact ERR.out _ 13 (BB.out _ OY.out) P1.out
end Go.Proofs.YtlejeelmlclnkaaGreatDoor
namespace Go.Proofs.YtlejeelmlclnkaaGreatDoor
open Go.RowKit

set_option maxHeartbeats 4000000 in
set_option maxRecDepth 100000 in
theorem rside_any (there : Bool) (id : Tx) (r : RO) (w : World) (h : ObIs w r) (hs : ObSz r.c ∧ r.c.refs.length ≤ 100000) :
    Calls Tryz.prog 110 #[.bool there, roA r, .string (mkB id)] w fun e w' => e = .returned (.bool (At.properB there id r.c)) ∧ Below w.heap.size w w' := by
  obtain ⟨A1, q1, v1, -⟩ := h.rs
  obtain ⟨A2, q2, v2, -⟩ := h.ts
  have PB : Hid (At.properB there id r.c = if there then decide (id = r.c.id) && At.validO r.c else At.sameO r.c At.zeroOb) := Lib.hid rfl
  have SM : Hid (∀ u, Below w.heap.size w u → Calls Tryz.prog 53 #[roA r, roA zeroRO] u fun e w' => e = .returned (.bool (At.sameO r.c At.zeroOb)) ∧ Below u.heap.size u w') := Lib.hid (fun u hu => rsame_any r zeroRO u (h.below hu) (zeroIs u) hs.1 zeroSz.1)
  have VO : Hid (∀ u, Below w.heap.size w u → Calls Tryz.prog 67 #[roA r] u fun e w' => e = .returned (.bool (At.validO r.c)) ∧ Below u.heap.size u w') := Lib.hid (fun u hu => rvalid_any r u (h.below hu) hs.1)
  rw [zeroA] at SM
  unfold roA at SM VO ⊢
  rw [v1, v2] at SM VO ⊢
  have te := mkB_tl []
  have em : (ByteArray.mk #[]) = mkB [] := rfl
  have ee : ByteArray.empty = mkB [] := rfl
  have t1 := mkB_tl id
  have t2 := mkB_tl r.c.id
  have BX : Hid (Below w.heap.size w (w.alloc (.cells #[.string (mkB r.c.id), .int .i64 r.c.kind, .int .i64 r.c.x, .int .i64 r.c.y, .slice A1 r.c.refs.length q1, .slice A2 r.c.tags.length q2] 43))) := Lib.hid ((Below.refl _ _).alloc (Nat.le_refl _) _)
  generalize At.properB there id r.c = R at *
  clear h hs v1 v2
  cases there
  · have RT : Hid (R = At.sameO r.c At.zeroOb) := Lib.hid PB.out
    go_enter Tryz.func110, Tryz.ntmps110
    go_wp2_with fail
    refine (SM.out _ BX.out).mono ?_
    rintro e w1 ⟨rfl, b1⟩
    have B1 := Lib.hid (BX.out.trans (b1.mono BX.out.size))
    clear b1
    go_wp2_with fail
    go_ret
    exact ⟨by rw [RT.out]; rfl, B1.out⟩
  · by_cases he : id = r.c.id
    · have e1 : (r.c.id == id) = true := by rw [he]; simp
      have RT : Hid (R = At.validO r.c) := Lib.hid (by rw [PB.out, if_pos rfl, decide_eq_true he]; rfl)
      clear he
      go_enter Tryz.func110, Tryz.ntmps110
      go_wp2_with fail
      refine (VO.out _ BX.out).mono ?_
      rintro e w1 ⟨rfl, b1⟩
      have B1 := Lib.hid (BX.out.trans (b1.mono BX.out.size))
      clear b1
      go_wp2_with fail
      go_ret
      exact ⟨by rw [RT.out]; rfl, B1.out⟩
    · have e1 : (r.c.id == id) = false := by simpa using fun e => he e.symm
      have RT : Hid (R = false) := Lib.hid (by rw [PB.out, if_pos rfl, decide_eq_false he]; rfl)
      clear he
      go_enter Tryz.func110, Tryz.ntmps110
      go_wp2_with fail
      go_ret
      exact ⟨by rw [RT.out]; rfl, BX.out⟩
def fewD (d : DV) : Bool := decide ((d.id.length : Int) ≤ 300) && fewO d.o.c && fewO d.n.c
def fewDs (l : List DV) : Bool := decide (l.length ≤ 30) && l.all fewD
def TagIn (o : At.Ob) : Prop := ∀ t ∈ o.tags, t.1.length ≤ 9223372036854775807 ∧ t.2.length ≤ 9223372036854775807
set_option maxHeartbeats 4000000 in
set_option maxRecDepth 100000 in
theorem rfewd_any (A : Option Addr) (n c : Nat) (l : List DV) (w : World) (hn : n = l.length) (hl : n ≤ 9223372036854775807) (h : Rd w A (dvsC l)) (hd : ∀ d ∈ l, DvIs w d ∧ TagIn d.o.c ∧ TagIn d.n.c) :
    Calls Tryz.prog 27 #[.slice A n c, .int .i64 30] w fun e w' => e = .returned (.bool (fewDs l)) ∧ Below w.heap.size w w' := by
  have H := Lib.hid h
  have HD := Lib.hid hd
  have HN := Lib.hid hn
  obtain ⟨R, hR⟩ : ∃ R, fewDs l = R := ⟨_, rfl⟩
  have HR : Hid (R = (decide (n ≤ 30) && l.all fewD)) := Lib.hid (by rw [← hR, hn]; rfl)
  rw [hR]
  clear hR h hd hn
  have BW : Hid (Below w.heap.size w w) := Lib.hid (Below.refl _ _)
  by_cases h30 : 30 < n
  · have g1 : decide ((n : Int) ≤ 30) = false := by simp; omega
    have g2 : decide ((0 : Int) < (n : Int)) = true := by simp; omega
    have RF : Hid (R = false) := Lib.hid (by rw [HR.out, decide_eq_false (by omega)]; rfl)
    clear h30
    go_enter Tryz.func27, Tryz.ntmps27
    go_wp2_with fail
    go_loopw [5] (fun s5 wr => s5 = .int .i64 0 ∧ wr = w) (fun _ _ => 0)
    case atStart => exact ⟨rfl, rfl⟩
    case round =>
      obtain ⟨rfl, rfl⟩ := hrel
      go_wp2_with fail
      all_goals
        go_ret
        exact ⟨by rw [RF.out]; rfl, BW.out⟩
  · have g1 : decide ((n : Int) ≤ 30) = true := by simp; omega
    have HR : Hid (R = (l.drop 0).all fewD) := Lib.hid (by rw [HR.out, decide_eq_true (by omega)]; rfl)
    have hl30 : n ≤ 30 := by omega
    clear h30 hl
    go_enter Tryz.func27, Tryz.ntmps27
    go_wp2_with fail
    go_loopw [5] (fun s5 wr => ∃ k : Nat, k ≤ n ∧ s5 = .int .i64 (k : Int) ∧ Hid (R = (l.drop k).all fewD) ∧ Hid (Below w.heap.size w wr)) (fun i _ => n - (intOf i).toNat)
    case atStart => exact ⟨0, Nat.zero_le _, rfl, HR, BW⟩
    case round =>
      clear BW
      obtain ⟨k, hk, rfl, HK, BL⟩ := hrel
      by_cases hlt : k < n
      · have hkl : k < l.length := by rw [← HN.out]; exact hlt
        have d1 : (k : Int) < (n : Int) := by omega
        have d2 : (0 : Int) ≤ (k : Int) := by omega
        have d4 : decide ((k : Int) < (n : Int)) = true := by simp; omega
        have k8 : IntKind.i64.wrap ((k : Int) + 1) = (k : Int) + 1 := IntWalk.i64_in _ (by omega)
        obtain ⟨b, off, rfl, hb, hc⟩ := dvs_at (H.out.below BL.out) hkl
        obtain ⟨hi, ho, hnn⟩ := HD.out l[k] (List.getElem_mem hkl)
        have SK : Hid (R = (fewD l[k] && (l.drop (k + 1)).all fewD)) := Lib.hid (by rw [HK.out, List.drop_eq_getElem_cons hkl, List.all_cons])
        have FO : Hid (∀ u, Below w.heap.size w u → Calls Tryz.prog 26 #[roA l[k].o, .int .i64 40] u fun e w' => e = .returned (.bool (fewO l[k].o.c)) ∧ Below u.heap.size u w') := Lib.hid (fun u hu => fewo_any l[k].o u (hi.o.below hu) ho)
        have FN : Hid (∀ u, Below w.heap.size w u → Calls Tryz.prog 26 #[roA l[k].n, .int .i64 40] u fun e w' => e = .returned (.bool (fewO l[k].n.c)) ∧ Below u.heap.size u w') := Lib.hid (fun u hu => fewo_any l[k].n u (hi.n.below hu) hnn)
        obtain ⟨A1, q1, v1, -⟩ := hi.o.rs
        obtain ⟨A2, q2, v2, -⟩ := hi.o.ts
        obtain ⟨A3, q3, v3, -⟩ := hi.n.rs
        obtain ⟨A4, q4, v4, -⟩ := hi.n.ts
        have HC : Hid (∀ f u, (dlL l[k] A1 q1 A2 q2 A3 q3 A4 q4)[f]? = some u → ∀ v, Below wr.heap.size wr v → v.cell? ⟨b, off + k * 15 + f, none⟩ = some u) := Lib.hid (fun f u hu v hv => (Below.cell (p := ⟨b, off + k * 15 + f, none⟩) hv hb).trans (hc f u (by rw [dvC_eq v1 v2 v3 v4]; exact hu)))
        unfold roA at FO FN
        rw [v1, v2] at FO
        rw [v3, v4] at FN
        clear hi ho hnn v1 v2 v3 v4 hc HK
        generalize l[k] = x at *
        have zl := mkB_len x.id
        have FD : Hid (fewD x = (decide ((x.id.length : Int) ≤ 300) && fewO x.o.c && fewO x.n.c)) := Lib.hid rfl
        generalize fewD x = fd at *
        have c0 := HC.out 0 _ rfl wr (Below.refl _ _)
        simp only [Nat.add_zero] at c0
        by_cases hid : 300 < x.id.length
        · have g2 : decide ((300 : Int) < (x.id.length : Int)) = true := by simp; omega
          have RF : Hid (R = false) := Lib.hid (by rw [SK.out, FD.out, decide_eq_false (by omega)]; rfl)
          clear hid SK FD
          go_wp2_with fail
          go_ret
          exact ⟨by rw [RF.out]; rfl, BL.out⟩
        · have g2 : decide ((300 : Int) < (x.id.length : Int)) = false := by simp; omega
          rw [decide_eq_true (show (x.id.length : Int) ≤ 300 by omega)] at FD
          have c3 := HC.out 3 _ rfl wr (Below.refl _ _)
          have c4 := HC.out 4 _ rfl wr (Below.refl _ _)
          have c5 := HC.out 5 _ rfl wr (Below.refl _ _)
          have c6 := HC.out 6 _ rfl wr (Below.refl _ _)
          have c7 := HC.out 7 _ rfl wr (Below.refl _ _)
          have c8 := HC.out 8 _ rfl wr (Below.refl _ _)
          clear hid
          go_wp2_with fail
          refine (FO.out _ BL.out).mono ?_
          rintro e u1 ⟨rfl, b1⟩
          have B1 := Lib.hid (BL.out.trans (Below.mono b1 BL.out.size))
          have c9 := HC.out 9 _ rfl u1 b1
          have c10 := HC.out 10 _ rfl u1 b1
          have c11 := HC.out 11 _ rfl u1 b1
          have c12 := HC.out 12 _ rfl u1 b1
          have c13 := HC.out 13 _ rfl u1 b1
          have c14 := HC.out 14 _ rfl u1 b1
          clear b1 c0 c3 c4 c5 c6 c7 c8 FO
          cases h1 : fewO x.o.c
          · have RF : Hid (R = false) := Lib.hid (by rw [SK.out, FD.out, h1]; rfl)
            clear SK FD
            go_wp2_with fail
            go_ret
            exact ⟨by rw [RF.out]; rfl, B1.out⟩
          · rw [h1] at FD
            go_wp2_with fail
            refine (FN.out _ B1.out).mono ?_
            rintro e u2 ⟨rfl, b2⟩
            have B2 := Lib.hid (B1.out.trans (Below.mono b2 B1.out.size))
            clear b2 c9 c10 c11 c12 c13 c14 FN
            cases h2 : fewO x.n.c
            · have RF : Hid (R = false) := Lib.hid (by rw [SK.out, FD.out, h2]; rfl)
              clear SK FD
              go_wp2_with fail
              go_ret
              exact ⟨by rw [RF.out]; rfl, B2.out⟩
            · have RG : Hid (R = (l.drop (k + 1)).all fewD) := Lib.hid (by rw [SK.out, FD.out, h2]; rfl)
              clear SK FD
              go_wp2_with fail
              exact ⟨⟨k + 1, by omega, by go_num, RG, B2⟩, by simp [intOf]; omega⟩
      · obtain rfl : k = n := by omega
        have dk : decide ((k : Int) < (k : Int)) = false := by simp
        have RT : Hid (R = true) := Lib.hid (by rw [HK.out, List.drop_of_length_le (by rw [← HN.out]; exact Nat.le_refl _)]; rfl)
        clear hlt HK
        go_wp2_with fail
        go_ret
        exact ⟨by rw [RT.out]; rfl, BL.out⟩
end Go.Proofs.YtlejeelmlclnkaaGreatDoor
