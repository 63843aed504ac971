/- WALKS: ref12.Patch (printed by gen_fh.py). | WALK: the statement AtlasMatchesReference (printed by gen_dk.py). | THE STATEMENT AtlasMatchesReference: for every input the law returns true and leaves its arguments as they were. Conditions: none. -/
import Derived.Test.YtlejeelmlclnkaaGreatDoorFG
import Derived.Test.YtlejeelmlclnkaaGreatDoorFI
import Derived.Test.YtlejeelmlclnkaaGreatDoorDB
import Derived.Test.YtlejeelmlclnkaaGreatDoorRows
import Derived.WalkKit
import Derived.ProofKit
import Derived.OpenShut
import Derived.ShutString
import Derived.ChangeOld
import Derived.Below
import Derived.SizedLaws
import Derived.SliceStrings
import Derived.Lay
import Derived.Lib.LaidTab
import Derived.Lib.LaidU8
import Derived.SevenTiedAt
import Derived.Stop.Joined
import Derived.Test.YtlejeelmlclnkaaGreatDoorCards
import Derived.Test.YtlejeelmlclnkaaGreatDoorTie
import Derived.Test.YtlejeelmlclnkaaGreatDoorWD
set_option linter.unusedSimpArgs false
set_option linter.unusedVariables false
namespace Go.Proofs.YtlejeelmlclnkaaGreatDoor
open Go.RowKit

set_option maxHeartbeats 40000000 in
set_option maxRecDepth 100000 in
theorem rpatch_any (A B : Option Addr) (n c m d : Nat) (l : List RO) (ds : List DV) (w : World) (hn : n = l.length) (hm : m = ds.length) (hnm : n + m ≤ 90000) (h : Ms w A l) (hc : n ≤ c) (h2 : Dm w B ds) :
    Calls Tryz.prog 33 #[.agg #[.slice A n c], .slice B m d] w (MapE w (At.patchF (cts l) (ds.map DV.d))) := by
  have HM := Lib.hid h
  have HD := Lib.hid h2
  have HN := Lib.hid hn
  have HN2 := Lib.hid hm
  have HC := Lib.hid hc
  have PM : Hid (At.patchF (cts l) (ds.map DV.d) = if At.deltasFrom [] (ds.map DV.d) && At.validM (cts l) then (match At.patchGo [] (cts l) (ds.map DV.d) with | none => ([], 12) | some r => (r, 0)) else ([], 1)) := Lib.hid rfl
  have PQ : Hid (At.validM (cts l) = true → At.deltasFrom [] (ds.map DV.d) = true → At.patchF (cts l) (ds.map DV.d) = (match rpatchGo (cts l) (cts l) ((ds.drop 0).map DV.d) with | none => ([], 12) | some r => (r, 0))) := Lib.hid (fun v1 v2 => rpatch_eq v1 v2 (by rw [cts_len, List.length_map, ← HN.out, ← HN2.out]; omega))
  generalize At.patchF (cts l) (ds.map DV.d) = PP at *
  obtain ⟨g, hg⟩ : ∃ g, g = w.heap.size := ⟨_, rfl⟩
  obtain ⟨X, hX⟩ : ∃ X, X = (w.alloc (.cells #[.slice A n c] 24)).alloc (.cells #[.slice none 0 0] 24) := ⟨_, rfl⟩
  have BX : Below w.heap.size w X := by rw [hX]; exact ((Below.refl _ _).alloc (Nat.le_refl _) _).alloc (by simp) _
  have X0 : X.heap[g]? = some (.cells #[.slice A n c] 24 (0, 0)) := by rw [hX, hg]; exact (alloc_old _ _ (by simp)).trans (heap_alloc_new w _)
  have X2 : X.heap[g + 1]? = some (.cells #[.slice none 0 0] 24 (0, 0)) := by rw [hX, hg]; exact alloc_new' _ _ _ (by simp)
  have XZ : X.heap.size = g + 2 := by rw [hX, hg]; simp
  have hgw : w.heap.size ≤ g := by omega
  have CF : Hid (∀ u, OldB X u → u.cell? ⟨g, 0, none⟩ = some (.slice A n c) ∧ u.cell? ⟨g + 1, 0, none⟩ = some (.slice none 0 0) ∧ u.frozen? ⟨g + 1, 0, none⟩ = false) := Lib.hid (fun u hu => by
    have h0 := (hu.block g (by omega)).trans X0
    have h2 := (hu.block (g + 1) (by omega)).trans X2
    exact ⟨cell_of_row u _ 0 _ _ _ h0, cell_of_row u _ 0 _ _ _ h2, free_blk h2 0⟩)
  have R4 : Hid (∀ u, OldB X u → u.heap[g + 1]? = some (.cells #[.slice none 0 0] 24 (0, 0))) := Lib.hid (fun u hu => (hu.block (g + 1) (by omega)).trans X2)
  have BB : Hid (∀ u, OldB X u → Below w.heap.size w u) := Lib.hid (fun u hu => BX.trans (Below.mono hu BX.size))
  have OX : Hid (OldB X X) := Lib.hid (Below.refl _ _)
  have XZH := Lib.hid XZ
  obtain ⟨k0, -, -⟩ := CF.out X OX.out
  clear X0 X2 BX h h2 hn hm XZ hc
  go_enter Tryz.func33, Tryz.ntmps33
  go_upto_region 1 with fail
  rw [← hX]
  clear hX
  rw [← hg]
  clear hg
  go_wp2_with fail
  refine (rvalidm_any A c l n X HN.out (HM.out.below (BB.out _ OX.out))).mono ?_
  rintro e u1 ⟨rfl, b1⟩
  have O1 : Hid (OldB X u1) := Lib.hid b1
  clear b1 k0
  obtain ⟨k0, m0, fz⟩ := CF.out u1 O1.out
  cases hV : At.validM (cts l)
  · have FIN := box_fin (w := w) (b4 := g + 1) (c := 0) (k := 1) (A := none) (R := []) (Ms.nil u1) (Nat.le_refl _) (R4.out _ O1.out) (by omega) (BB.out _ O1.out)
    have PE : PP = (cts [], 1) := by rw [PM.out, hV, Bool.and_false]; rfl
    rw [← PE] at FIN
    have FL := Lib.hid FIN.1
    have FR := Lib.hid FIN.2
    clear FIN PE
    go_wp2_with fail
    refine bodyPost_ret (results_cell2 (i := 4) (j := 5) rfl rfl FL.out rfl) rfl ?_
    exact FR.out
  · have SR : Hid (At.Srt (cts l)) := Lib.hid (At.validM_iff.1 hV).1
    clear m0 fz
    go_wp2_with fail
    refine (rdeltas_any B m d ds u1 HN2.out (HD.out.below (BB.out _ O1.out))).mono ?_
    rintro e u2 ⟨rfl, b2⟩
    have O2 := Lib.hid (show OldB X u2 from OldB.then O1.out b2)
    clear b2 k0
    obtain ⟨k0, m0, fz⟩ := CF.out u2 O2.out
    cases hDl : At.deltasFrom [] (ds.map DV.d)
    · have FIN := box_fin (w := w) (b4 := g + 1) (c := 0) (k := 1) (A := none) (R := []) (Ms.nil u2) (Nat.le_refl _) (R4.out _ O2.out) (by omega) (BB.out _ O2.out)
      have PE : PP = (cts [], 1) := by rw [PM.out, hDl]; rfl
      rw [← PE] at FIN
      have FL := Lib.hid FIN.1
      have FR := Lib.hid FIN.2
      clear FIN PE
      go_wp2_with fail
      refine bodyPost_ret (results_cell2 (i := 4) (j := 5) rfl rfl FL.out rfl) rfl ?_
      exact FR.out
    · have PE : Hid (PP = (match rpatchGo (cts l) (cts l) ((ds.drop 0).map DV.d) with | none => ([], 12) | some r => (r, 0))) := Lib.hid (PQ.out hV hDl)
      have LV := Lib.hid (Live.new (HM.out.below (BB.out _ O2.out)) (show l.length ≤ c by rw [← HN.out]; exact HC.out))
      rw [← HN.out] at LV
      have B6 : Hid (OldB X (u2.alloc (.cells #[.slice A n c] 24))) := Lib.hid (OldB.then O2.out ((Below.refl _ _).alloc (Nat.le_refl _) _))
      obtain ⟨g2, hg2⟩ : ∃ g2, u2.heap.size = g2 := ⟨_, rfl⟩
      have ZZ : X.heap.size ≤ g2 := by rw [← hg2]; exact Below.size O2.out
      have ZU : (u2.alloc (.cells #[.slice A n c] 24)).heap.size = g2 + 1 := by rw [← hg2]; simp
      rw [hg2] at LV
      clear PM PQ hV hDl m0 fz
      go_upto_region 4 with fail
      try rw [hg2]
      clear hg2 k0
      generalize u2.alloc (.cells #[.slice A n c] 24) = U at *
      have ZX : g + 2 ≤ g2 := by have := XZH.out; omega
      have CB : Hid (∀ u, But (· = g2) U u → OldB X u) := Lib.hid (fun u hu => by
        have := Below.trans B6.out (hu.below (B := X.heap.size) (by omega) (fun k hk => by omega))
        exact this)
      have OB : Hid (But (· = g2) U U) := Lib.hid (But.refl _ _)
      have LN0 : Hid (l.length ≤ n + 0 ∧ At.Srt (cts l)) := Lib.hid ⟨by rw [← HN.out]; omega, SR.out⟩
      go_wp2_with fail
      go_loopw [7] (fun s7 wr => ∃ (k : Nat) (A5 : Option Addr) (c5 : Nat) (R5 : List RO), k ≤ m ∧ s7 = .int .i64 (k : Int) ∧ Hid (Live wr g2 A5 c5 R5) ∧ Hid (But (· = g2) U wr) ∧ Hid (R5.length ≤ n + k ∧ At.Srt (cts R5)) ∧ Hid (PP = (match rpatchGo (cts l) (cts R5) ((ds.drop k).map DV.d) with | none => ([], 12) | some r => (r, 0)))) (fun i _ => m - (intOf i).toNat)
      case atStart => exact ⟨0, _, _, l, Nat.zero_le _, rfl, LV, OB, LN0, PE⟩
      case round =>
        clear LV OB LN0 PE O1 O2
        obtain ⟨k, A5, c5, R5, hk, rfl, LV, OB, LN, PE⟩ := hrel
        by_cases hlt : k < m
        · have hkl : k < ds.length := by rw [← HN2.out]; exact hlt
          have d1 : (k : Int) < (m : Int) := by omega
          have d2 : (0 : Int) ≤ (k : Int) := by omega
          have k8 : IntKind.i64.wrap ((k : Int) + 1) = (k : Int) + 1 := IntWalk.i64_in _ (by omega)
          obtain ⟨bd, od, rfl, hbd, -⟩ := dvs_at HD.out.rd hkl
          have hi := HD.out.is ds[k] (List.getElem_mem hkl)
          have sz := HD.out.sz ds[k] (List.getElem_mem hkl)
          obtain ⟨A1, q1, v1, -⟩ := hi.o.rs
          obtain ⟨A2, q2, v2, -⟩ := hi.o.ts
          obtain ⟨A3, q3, v3, -⟩ := hi.n.rs
          obtain ⟨A4, q4, v4, -⟩ := hi.n.ts
          have DC : Hid (∀ f v, (dlL ds[k] A1 q1 A2 q2 A3 q3 A4 q4)[f]? = some v → ∀ u, But (· = g2) U u → u.cell? ⟨bd, od + k * 15 + f, none⟩ = some v) := Lib.hid (fun f v hv u hu => by
            obtain ⟨b', off', e', hb', hc'⟩ := dvs_at (HD.out.rd.below (BB.out _ (CB.out u hu))) hkl
            obtain ⟨rfl, rfl⟩ : bd = b' ∧ od = off' := by injection e' with e'; injection e' with e1 e2; exact ⟨e1, e2⟩
            exact hc' f v (by rw [dvC_eq v1 v2 v3 v4]; exact hv))
          have DI : Hid (∀ u, But (· = g2) U u → DvIs u ds[k]) := Lib.hid (fun u hu => hi.below (BB.out _ (CB.out u hu)))
          have DZ : Hid (DvSz ds[k]) := Lib.hid sz
          have V12 : Hid (roA ds[k].o = .agg #[.string (mkB ds[k].o.c.id), .int .i64 ds[k].o.c.kind, .int .i64 ds[k].o.c.x, .int .i64 ds[k].o.c.y, .slice A1 ds[k].o.c.refs.length q1, .slice A2 ds[k].o.c.tags.length q2]) := Lib.hid (by unfold roA; rw [v1, v2])
          have V34 : Hid (roA ds[k].n = .agg #[.string (mkB ds[k].n.c.id), .int .i64 ds[k].n.c.kind, .int .i64 ds[k].n.c.x, .int .i64 ds[k].n.c.y, .slice A3 ds[k].n.c.refs.length q3, .slice A4 ds[k].n.c.tags.length q4]) := Lib.hid (by unfold roA; rw [v3, v4])
          have STP : Hid (PP = (match (if At.fitB (At.look (cts l) ds[k].d.id) ds[k].d then rpatchGo (cts l) (stepR (cts R5) ds[k].d) ((ds.drop (k + 1)).map DV.d) else none) with | none => ([], 12) | some r => (r, 0))) := Lib.hid (by rw [PE.out, List.drop_eq_getElem_cons hkl, List.map_cons, rpatchGo])
          have OWN : Hid (ds[k].is = true → ds[k].n.c.id.length ≤ 1000000) := Lib.hid (fun _ => sz.2.2.1.id)
          have S1 := Lib.hid (stepR_srt LN.out.2 ds[k].d)
          have S2 := Lib.hid (stepR_len LN.out.2 ds[k].d)
          have K0 : ∀ u, But (· = g2) U u → u.cell? ⟨g, 0, none⟩ = some (.slice A n c) := fun u hu => (CF.out u (CB.out u hu)).1
          have FN := Lib.hid (fun (u : World) (hu : But (· = g2) U u) => rfind_any A c l ds[k].id n u HN.out (HM.out.below (BB.out _ (CB.out u hu))))
          clear hi sz v1 v2 v3 v4 hbd PE
          generalize ds[k] = x at *
          have e0 := fun u hu => DC.out 0 _ rfl u hu
          have e1 := fun u hu => DC.out 1 _ rfl u hu
          have e2 := fun u hu => DC.out 2 _ rfl u hu
          simp only [Nat.add_zero] at e0
          go_upto_region 7 with fail
          (refine wp_region_noPanic ?_; refine wp_region_held_drew (S := (fun u : World => But (· = g2) U u)) (by kernel_rfl) ?_ (fun hHeld => ?_); exact OB.out.drew)
          (refine tkW 0 ?_; try simp only [gmS])
          (refine tkW 1 ?_; try simp only [gmS])
          (refine tkW 2 ?_; try simp only [gmS])
          (refine tkW 3 ?_; try simp only [gmS])
          (refine tkW 4 ?_; try simp only [gmS])
          (refine tkW 5 ?_; try simp only [gmS])
          (refine rdW 6 (fun K hK => ?_); go_simp)
          refine (FN.out _ hHeld).mono ?_
          rintro e u3 ⟨rfl, b3⟩
          (refine hK.out _ _ (But.trans hHeld (But.of_below b3)) (fun hHeld2 => ?_); clear hK K hHeld; have hHeld := hHeld2; clear hHeld2; try simp only [gmS])
          (refine tkW 7 ?_; try simp only [gmS])
          have OB3 := Lib.hid (show But (· = g2) U u3 from hHeld)
          have LV3 := Lib.hid ((LV.out.below (Below.drew (Below.refl wr.heap.size wr))).below b3)
          (refine wpAnyH_done (by kernel_rfl) ?_ _; refine NoPanic.normal ?_)
          clear hHeld b3 LV OB FN
          cases hL : At.look (cts l) x.id with
          | none =>
            have z1 : findR (cts l) x.id = -1 := find_none hL
            rw [z1]
            have FT : Hid (At.fitB (At.look (cts l) x.d.id) x.d = !x.was) := Lib.hid (by show At.fitB (At.look (cts l) x.id) x.d = _; rw [hL]; rfl)
            rw [FT.out] at STP
            clear FT z1 hL
            generalize hwas : x.was = wa at *
            cases wa with
            | true =>
              go_upto_region 8 with fail
              (refine wp_region_noPanic ?_; refine wp_region_held_drew (S := (fun u : World => But (· = g2) U u)) (by kernel_rfl) ?_ (fun hHeld => ?_); exact OB3.out.drew)
              (refine tkW 0 ?_; try simp only [gmS])
              (refine tkW 1 ?_; try simp only [gmS])
              (refine tkW 2 ?_; try simp only [gmS])
              (refine tkW 3 ?_; try simp only [gmS])
              (refine tkW 4 ?_; try simp only [gmS])
              (refine tkW 5 ?_; try simp only [gmS])
              (refine tkW 6 ?_; try simp only [gmS])
              (refine tkW 7 ?_; try simp only [gmS])
              (refine tkW 8 ?_; try simp only [gmS])
              (refine skK 9 ?_; try simp only [gmS])
              (refine skK 10 ?_; try simp only [gmS])
              (refine skK 11 ?_; try simp only [gmS])
              (refine skK 12 ?_; try simp only [gmS])
              (refine skK 13 ?_; try simp only [gmS])
              (refine skK 14 ?_; try simp only [gmS])
              (refine skK 15 ?_; try simp only [gmS])
              (refine skK 16 ?_; try simp only [gmS])
              (refine skK 17 ?_; try simp only [gmS])
              (refine skK 18 ?_; try simp only [gmS])
              (refine skK 19 ?_; try simp only [gmS])
              (refine skK 20 ?_; try simp only [gmS])
              (refine skK 21 ?_; try simp only [gmS])
              (refine skK 22 ?_; try simp only [gmS])
              (refine skK 23 ?_; try simp only [gmS])
              (refine skK 24 ?_; try simp only [gmS])
              (refine tkW 25 ?_; try simp only [gmS])
              have O5 := Lib.hid (show But (· = g2) U _ from hHeld)
              (refine wpAnyH_done (by kernel_rfl) ?_ _; refine NoPanic.normal ?_)
              clear hHeld
              have FIN := box_fin (w := w) (b4 := g + 1) (c := 0) (k := 12) (A := none) (R := []) (Ms.nil u3.drew) (Nat.le_refl _) (R4.out _ (CB.out _ O5.out)) (by omega) (BB.out _ (CB.out _ O5.out))
              have PE2 : PP = (cts [], 12) := by rw [STP.out]; rfl
              rw [← PE2] at FIN
              have FL := Lib.hid FIN.1
              have FR := Lib.hid FIN.2
              obtain ⟨-, m0, fz⟩ := CF.out _ (CB.out _ O5.out)
              clear FIN PE2 e0 e1 e2
              go_wp2_with fail
              refine bodyPost_ret (results_cell2 (i := 4) (j := 5) rfl rfl FL.out rfl) rfl ?_
              exact FR.out
            | false =>
              go_upto_region 8 with fail
              (refine wp_region_noPanic ?_; refine wp_region_held_drew (S := (fun u : World => But (· = g2) U u)) (by kernel_rfl) ?_ (fun hHeld => ?_); exact OB3.out.drew)
              (refine tkW 0 ?_; try simp only [gmS])
              (refine tkW 1 ?_; try simp only [gmS])
              (refine tkW 2 ?_; try simp only [gmS])
              (refine tkW 3 ?_; try simp only [gmS])
              (refine tkW 4 ?_; try simp only [gmS])
              (refine tkW 5 ?_; try simp only [gmS])
              (refine tkW 6 ?_; try simp only [gmS])
              (refine tkW 7 ?_; try simp only [gmS])
              (refine tkW 8 ?_; try simp only [gmS])
              (refine tkK 9 ?_; try simp only [gmS])
              (refine tkK 10 ?_; try simp only [gmS])
              (refine tkK 11 ?_; try simp only [gmS])
              (refine skK 12 ?_; try simp only [gmS])
              (refine skK 13 ?_; try simp only [gmS])
              (refine skK 14 ?_; try simp only [gmS])
              (refine skK 15 ?_; try simp only [gmS])
              (refine skK 16 ?_; try simp only [gmS])
              (refine skK 17 ?_; try simp only [gmS])
              (refine skK 18 ?_; try simp only [gmS])
              (refine skK 19 ?_; try simp only [gmS])
              (refine skK 20 ?_; try simp only [gmS])
              (refine skK 21 ?_; try simp only [gmS])
              (refine skK 22 ?_; try simp only [gmS])
              (refine skK 23 ?_; try simp only [gmS])
              (refine tkK 24 ?_; try simp only [gmS])
              (refine tkW 25 ?_; try simp only [gmS])
              have O5 := Lib.hid (show But (· = g2) U _ from hHeld)
              have L5 := Lib.hid (LV3.out.below (Below.drew (Below.refl u3.heap.size u3)))
              (refine wpAnyH_done (by kernel_rfl) ?_ _; refine NoPanic.normal ?_)
              clear hHeld LV3 OB3
              have STP : Hid (PP = (match rpatchGo (cts l) (stepR (cts R5) x.d) ((ds.drop (k + 1)).map DV.d) with | none => ([], 12) | some r => (r, 0))) := Lib.hid (by rw [STP.out]; rfl)
              generalize u3.drew = u5 at *
              have E2 := e2 _ O5.out
              have x0 := L5.out.cell
              have xf := free_blk L5.out.box 0
              generalize hisd : x.is = ia at *
              cases ia with
              | true =>
                have ST : Hid (stepR (cts R5) x.d = At.putF (cts R5) x.n.c) := Lib.hid (by unfold stepR; rw [show x.d.is = true from hisd]; rfl)
                have WI : Hid (∀ u, But (· = g2) U u → Ms u A5 R5 → Calls Tryz.prog 68 #[.agg #[.slice A5 R5.length c5], roA x.n] u (MapP u (At.putF (cts R5) x.n.c))) := Lib.hid (fun u hu hM => rwith_any A5 R5.length c5 R5 x.n u rfl (by have := LN.out.1; omega) hM (DI.out u hu).n DZ.out.2.2 LN.out.2)
                rw [V34.out] at WI
                have f9 := fun u hu => DC.out 9 _ rfl u hu
                have f10 := fun u hu => DC.out 10 _ rfl u hu
                have f11 := fun u hu => DC.out 11 _ rfl u hu
                have f12 := fun u hu => DC.out 12 _ rfl u hu
                have f13 := fun u hu => DC.out 13 _ rfl u hu
                have f14 := fun u hu => DC.out 14 _ rfl u hu
                clear hisd
                go_upto_region 11 with fail
                have XD : u5.drew.cell? ⟨g2, 0, none⟩ = some (.slice A5 R5.length c5) := (L5.out.below (Below.drew (Below.refl _ _))).cell
                (refine wp_region_noPanic ?_; refine wp_region_held_drew (S := (fun u : World => But (· = g2) U u)) (by kernel_rfl) ?_ (fun hHeld => ?_); exact O5.out.drew)
                (refine tkW 1 ?_; try simp only [gmS])
                (refine tkW 2 ?_; try simp only [gmS])
                (refine tkW 3 ?_; try simp only [gmS])
                (refine tkW 4 ?_; try simp only [gmS])
                (refine tkW 5 ?_; try simp only [gmS])
                (refine rdW 0 (fun K hK => ?_); go_simp)
                (refine hK.out _ _ hHeld (fun hHeld2 => ?_); clear hK K hHeld; have hHeld := hHeld2; clear hHeld2; try simp only [gmS])
                (refine rdW 6 (fun K hK => ?_); go_simp)
                refine (WI.out _ hHeld (L5.out.ms.below (Below.drew (Below.refl _ _)))).mono ?_
                rintro e u6 ⟨A6, c6, R6, rfl, M6, he6, hc6, b6⟩
                have Y0 := (Below.block b6 g2 (lt_of_block' (show u5.drew.heap[g2]? = _ from L5.out.box))).trans (show u5.drew.heap[g2]? = _ from L5.out.box)
                have Y1 : u6.cell? ⟨g2, 0, none⟩ = some (.slice A5 R5.length c5) := by have := cell_of_row u6 g2 0 _ _ _ Y0; simpa using this
                have Y2 := free_blk Y0 0
                have O6 := But.trans hHeld (But.of_below b6)
                (refine hK.out _ _ O6 (fun hHeld2 => ?_); clear hK K hHeld; have hHeld := hHeld2; clear hHeld2; try simp only [gmS])
                (refine rdW 7 (fun K hK => ?_); go_simp)
                have O7 := But.set O6 (p := ⟨g2, 0, none⟩) rfl (.slice A6 R6.length c6)
                (refine hK.out _ _ O7 (fun hHeld2 => ?_); clear hK K hHeld; have hHeld := hHeld2; clear hHeld2; try simp only [gmS])
                (refine wpAnyH_done (by kernel_rfl) ?_ _; refine NoPanic.normal ?_)
                have L7 := Lib.hid (Live.set Y0 M6 hc6)
                have OO7 := Lib.hid O7
                have LN7 : Hid (R6.length ≤ n + (k + 1) ∧ At.Srt (cts R6)) := Lib.hid (by
                  rw [← ST.out] at he6
                  refine ⟨?_, by rw [he6]; exact S1.out⟩
                  have h1 := S2.out
                  rw [← he6, cts_len, cts_len] at h1
                  have := LN.out.1
                  omega)
                have PE7 : Hid (PP = (match rpatchGo (cts l) (cts R6) ((ds.drop (k + 1)).map DV.d) with | none => ([], 12) | some r => (r, 0))) := Lib.hid (by rw [he6, ← ST.out]; exact STP.out)
                clear hHeld O6 O7 Y0 Y1 Y2 M6 he6 hc6 b6 e0 e1 e2 XD
                go_wp2_with fail
                exact ⟨⟨k + 1, A6, c6, R6, by omega, by go_num, L7, OO7, LN7, PE7⟩, by simp [intOf]; omega⟩
              | false =>
                have ST : Hid (stepR (cts R5) x.d = woF (cts R5) x.id) := Lib.hid (by unfold stepR; rw [show x.d.is = false from hisd]; rfl)
                clear hisd
                go_upto_region 12 with fail
                have XD : u5.drew.cell? ⟨g2, 0, none⟩ = some (.slice A5 R5.length c5) := (L5.out.below (Below.drew (Below.refl _ _))).cell
                (refine wp_region_noPanic ?_; refine wp_region_held_drew (S := (fun u : World => But (· = g2) U u)) (by kernel_rfl) ?_ (fun hHeld => ?_); exact O5.out.drew)
                (refine tkW 1 ?_; try simp only [gmS])
                (refine tkW 2 ?_; try simp only [gmS])
                (refine tkW 3 ?_; try simp only [gmS])
                (refine tkW 4 ?_; try simp only [gmS])
                (refine tkW 5 ?_; try simp only [gmS])
                (refine rdW 0 (fun K hK => ?_); go_simp)
                (refine hK.out _ _ hHeld (fun hHeld2 => ?_); clear hK K hHeld; have hHeld := hHeld2; clear hHeld2; try simp only [gmS])
                (refine rdW 6 (fun K hK => ?_); go_simp)
                refine (rwithout_any A5 R5.length c5 R5 x.id _ rfl (L5.out.ms.below (Below.drew (Below.refl _ _)))).mono ?_
                rintro e u6 ⟨A6, c6, R6, rfl, M6, he6, hc6, b6⟩
                have Y0 := (Below.block b6 g2 (lt_of_block' (show u5.drew.heap[g2]? = _ from L5.out.box))).trans (show u5.drew.heap[g2]? = _ from L5.out.box)
                have Y1 : u6.cell? ⟨g2, 0, none⟩ = some (.slice A5 R5.length c5) := by have := cell_of_row u6 g2 0 _ _ _ Y0; simpa using this
                have Y2 := free_blk Y0 0
                have O6 := But.trans hHeld (But.of_below b6)
                (refine hK.out _ _ O6 (fun hHeld2 => ?_); clear hK K hHeld; have hHeld := hHeld2; clear hHeld2; try simp only [gmS])
                (refine rdW 7 (fun K hK => ?_); go_simp)
                have O7 := But.set O6 (p := ⟨g2, 0, none⟩) rfl (.slice A6 R6.length c6)
                (refine hK.out _ _ O7 (fun hHeld2 => ?_); clear hK K hHeld; have hHeld := hHeld2; clear hHeld2; try simp only [gmS])
                (refine wpAnyH_done (by kernel_rfl) ?_ _; refine NoPanic.normal ?_)
                have L7 := Lib.hid (Live.set Y0 M6 hc6)
                have OO7 := Lib.hid O7
                have LN7 : Hid (R6.length ≤ n + (k + 1) ∧ At.Srt (cts R6)) := Lib.hid (by
                  rw [← ST.out] at he6
                  refine ⟨?_, by rw [he6]; exact S1.out⟩
                  have h1 := S2.out
                  rw [← he6, cts_len, cts_len] at h1
                  have := LN.out.1
                  omega)
                have PE7 : Hid (PP = (match rpatchGo (cts l) (cts R6) ((ds.drop (k + 1)).map DV.d) with | none => ([], 12) | some r => (r, 0))) := Lib.hid (by rw [he6, ← ST.out]; exact STP.out)
                clear hHeld O6 O7 Y0 Y1 Y2 M6 he6 hc6 b6 e0 e1 e2 XD
                go_wp2_with fail
                exact ⟨⟨k + 1, A6, c6, R6, by omega, by go_num, L7, OO7, LN7, PE7⟩, by simp [intOf]; omega⟩
          | some z =>
            obtain ⟨-, -, z1⟩ := find_some SR.out hL
            obtain ⟨hp, hz⟩ := look_pos SR.out hL
            rw [z1]
            have FT : Hid (At.fitB (At.look (cts l) x.d.id) x.d = (x.was && At.sameO z x.o.c)) := Lib.hid (by show At.fitB (At.look (cts l) x.id) x.d = _; rw [hL]; rfl)
            rw [FT.out] at STP
            have SM : Hid (∀ u, But (· = g2) U u → Calls Tryz.prog 53 #[roA l[At.pos (cts l) x.id], roA x.o] u fun e w' => e = .returned (.bool (At.sameO z x.o.c)) ∧ Below u.heap.size u w') := Lib.hid (fun u hu => by
              have hM := HM.out.below (BB.out _ (CB.out u hu))
              have := rsame_any l[At.pos (cts l) x.id] x.o u (hM.ob _ (List.getElem_mem hp)) (DI.out u hu).o (hM.sz _ (List.getElem_mem hp)).1 DZ.out.2.1.1
              rwa [hz] at this)
            generalize At.pos (cts l) x.id = p at *
            have hpn : p < n := by rw [HN.out]; exact hp
            have i1 : (p : Int) < (n : Int) := by omega
            have i2 : (0 : Int) ≤ (p : Int) := by omega
            have i3 : decide ((0 : Int) ≤ (p : Int)) = true := by simp
            obtain ⟨b, off, rfl, hb, -⟩ := ros_at HM.out.rd hp
            have HO := HM.out.ob l[p] (List.getElem_mem hp)
            obtain ⟨A7, q7, v7, -⟩ := HO.rs
            obtain ⟨A8, q8, v8, -⟩ := HO.ts
            have MC : Hid (∀ f v, ([.string (mkB l[p].c.id), .int .i64 l[p].c.kind, .int .i64 l[p].c.x, .int .i64 l[p].c.y, .slice A7 l[p].c.refs.length q7, .slice A8 l[p].c.tags.length q8] : List Value)[f]? = some v → ∀ u, But (· = g2) U u → u.cell? ⟨b, off + p * 6 + f, none⟩ = some v) := Lib.hid (fun f v hv u hu => by
              obtain ⟨b', off', e', hb', c0, c1, c2, c3, c4, c5⟩ := ros_at (HM.out.rd.below (BB.out _ (CB.out u hu))) hp
              obtain ⟨rfl, rfl⟩ : b = b' ∧ off = off' := by injection e' with e'; injection e' with e1 e2; exact ⟨e1, e2⟩
              rw [v7] at c4
              rw [v8] at c5
              match f, hv with
              | 0, hv => simp at hv; subst hv; exact c0
              | 1, hv => simp at hv; subst hv; exact c1
              | 2, hv => simp at hv; subst hv; exact c2
              | 3, hv => simp at hv; subst hv; exact c3
              | 4, hv => simp at hv; subst hv; exact c4
              | 5, hv => simp at hv; subst hv; exact c5)
            have V78 : roA l[p] = .agg #[.string (mkB l[p].c.id), .int .i64 l[p].c.kind, .int .i64 l[p].c.x, .int .i64 l[p].c.y, .slice A7 l[p].c.refs.length q7, .slice A8 l[p].c.tags.length q8] := by unfold roA; rw [v7, v8]
            rw [V78, V12.out] at SM
            clear FT z1 hL hz HO v7 v8 V78 hb
            generalize l[p].c = y at *
            generalize hwas : x.was = wa at *
            cases wa with
            | false =>
              go_upto_region 8 with fail
              (refine wp_region_noPanic ?_; refine wp_region_held_drew (S := (fun u : World => But (· = g2) U u)) (by kernel_rfl) ?_ (fun hHeld => ?_); exact OB3.out.drew)
              (refine tkW 0 ?_; try simp only [gmS])
              (refine tkW 1 ?_; try simp only [gmS])
              (refine tkW 2 ?_; try simp only [gmS])
              (refine tkW 3 ?_; try simp only [gmS])
              (refine tkW 4 ?_; try simp only [gmS])
              (refine tkW 5 ?_; try simp only [gmS])
              (refine tkW 6 ?_; try simp only [gmS])
              (refine tkW 7 ?_; try simp only [gmS])
              (refine tkW 8 ?_; try simp only [gmS])
              (refine skK 9 ?_; try simp only [gmS])
              (refine skK 10 ?_; try simp only [gmS])
              (refine skK 11 ?_; try simp only [gmS])
              (refine skK 12 ?_; try simp only [gmS])
              (refine skK 13 ?_; try simp only [gmS])
              (refine skK 14 ?_; try simp only [gmS])
              (refine skK 15 ?_; try simp only [gmS])
              (refine skK 16 ?_; try simp only [gmS])
              (refine skK 17 ?_; try simp only [gmS])
              (refine skK 18 ?_; try simp only [gmS])
              (refine skK 19 ?_; try simp only [gmS])
              (refine skK 20 ?_; try simp only [gmS])
              (refine skK 21 ?_; try simp only [gmS])
              (refine skK 22 ?_; try simp only [gmS])
              (refine skK 23 ?_; try simp only [gmS])
              (refine skK 24 ?_; try simp only [gmS])
              (refine tkW 25 ?_; try simp only [gmS])
              have O5 := Lib.hid (show But (· = g2) U _ from hHeld)
              (refine wpAnyH_done (by kernel_rfl) ?_ _; refine NoPanic.normal ?_)
              clear hHeld
              have FIN := box_fin (w := w) (b4 := g + 1) (c := 0) (k := 12) (A := none) (R := []) (Ms.nil u3.drew) (Nat.le_refl _) (R4.out _ (CB.out _ O5.out)) (by omega) (BB.out _ (CB.out _ O5.out))
              have PE2 : PP = (cts [], 12) := by rw [STP.out]; rfl
              rw [← PE2] at FIN
              have FL := Lib.hid FIN.1
              have FR := Lib.hid FIN.2
              obtain ⟨-, m0, fz⟩ := CF.out _ (CB.out _ O5.out)
              clear FIN PE2 e0 e1 e2
              go_wp2_with fail
              refine bodyPost_ret (results_cell2 (i := 4) (j := 5) rfl rfl FL.out rfl) rfl ?_
              exact FR.out
            | true =>
              go_upto_region 8 with fail
              (refine wp_region_noPanic ?_; refine wp_region_held_drew (S := (fun u : World => But (· = g2) U u)) (by kernel_rfl) ?_ (fun hHeld => ?_); exact OB3.out.drew)
              (refine tkW 0 ?_; try simp only [gmS])
              (refine tkW 1 ?_; try simp only [gmS])
              (refine tkW 2 ?_; try simp only [gmS])
              (refine tkW 3 ?_; try simp only [gmS])
              (refine tkW 4 ?_; try simp only [gmS])
              (refine tkW 5 ?_; try simp only [gmS])
              (refine tkW 6 ?_; try simp only [gmS])
              (refine tkW 7 ?_; try simp only [gmS])
              (refine tkW 8 ?_; try simp only [gmS])
              (refine tkK 9 ?_; try simp only [gmS])
              (refine tkK 10 ?_; try simp only [gmS])
              (refine tkK 11 ?_; try simp only [gmS])
              (refine tkK 12 ?_; try simp only [gmS])
              (refine tkK 13 ?_; try simp only [gmS])
              (refine tkK 14 ?_; try simp only [gmS])
              (refine tkK 15 ?_; try simp only [gmS])
              have f0 := fun u hu => MC.out 0 _ rfl u hu
              have f1 := fun u hu => MC.out 1 _ rfl u hu
              have f2 := fun u hu => MC.out 2 _ rfl u hu
              have f3 := fun u hu => MC.out 3 _ rfl u hu
              have f4 := fun u hu => MC.out 4 _ rfl u hu
              have f5 := fun u hu => MC.out 5 _ rfl u hu
              simp only [Nat.add_zero] at f0
              (refine tkK 16 ?_; try simp only [gmS])
              (refine tkK 17 ?_; try simp only [gmS])
              (refine tkK 18 ?_; try simp only [gmS])
              (refine tkK 19 ?_; try simp only [gmS])
              (refine tkK 20 ?_; try simp only [gmS])
              clear f0 f1 f2 f3 f4 f5
              have f3 := fun u hu => DC.out 3 _ rfl u hu
              have f4 := fun u hu => DC.out 4 _ rfl u hu
              have f5 := fun u hu => DC.out 5 _ rfl u hu
              have f6 := fun u hu => DC.out 6 _ rfl u hu
              have f7 := fun u hu => DC.out 7 _ rfl u hu
              have f8 := fun u hu => DC.out 8 _ rfl u hu
              (refine tkK 21 ?_; try simp only [gmS])
              clear f3 f4 f5 f6 f7 f8
              (refine rdW 22 (fun K hK => ?_); go_simp)
              refine (SM.out _ hHeld).mono ?_
              rintro e u4 ⟨rfl, b4⟩
              (refine hK.out _ _ (But.trans hHeld (But.of_below b4)) (fun hHeld2 => ?_); clear hK K hHeld; have hHeld := hHeld2; clear hHeld2; try simp only [gmS])
              (refine tkK 23 ?_; try simp only [gmS])
              (refine tkK 24 ?_; try simp only [gmS])
              (refine tkW 25 ?_; try simp only [gmS])
              have O5 := Lib.hid (show But (· = g2) U _ from hHeld)
              have L5 := Lib.hid ((LV3.out.below (Below.drew (Below.refl u3.heap.size u3))).below b4)
              (refine wpAnyH_done (by kernel_rfl) ?_ _; refine NoPanic.normal ?_)
              clear hHeld LV3 OB3 SM MC b4
              cases hsm : At.sameO z x.o.c with
              | false =>
                rw [hsm] at STP
                have FIN := box_fin (w := w) (b4 := g + 1) (c := 0) (k := 12) (A := none) (R := []) (Ms.nil u4) (Nat.le_refl _) (R4.out _ (CB.out _ O5.out)) (by omega) (BB.out _ (CB.out _ O5.out))
                have PE2 : PP = (cts [], 12) := by rw [STP.out]; rfl
                rw [← PE2] at FIN
                have FL := Lib.hid FIN.1
                have FR := Lib.hid FIN.2
                obtain ⟨-, m0, fz⟩ := CF.out _ (CB.out _ O5.out)
                clear FIN PE2 e0 e1 e2
                go_wp2_with fail
                refine bodyPost_ret (results_cell2 (i := 4) (j := 5) rfl rfl FL.out rfl) rfl ?_
                exact FR.out
              | true =>
                have STP : Hid (PP = (match rpatchGo (cts l) (stepR (cts R5) x.d) ((ds.drop (k + 1)).map DV.d) with | none => ([], 12) | some r => (r, 0))) := Lib.hid (by rw [STP.out, hsm]; rfl)
                clear hsm
                have E2 := e2 _ O5.out
                have x0 := L5.out.cell
                have xf := free_blk L5.out.box 0
                generalize hisd : x.is = ia at *
                cases ia with
                | true =>
                  have ST : Hid (stepR (cts R5) x.d = At.putF (cts R5) x.n.c) := Lib.hid (by unfold stepR; rw [show x.d.is = true from hisd]; rfl)
                  have WI : Hid (∀ u, But (· = g2) U u → Ms u A5 R5 → Calls Tryz.prog 68 #[.agg #[.slice A5 R5.length c5], roA x.n] u (MapP u (At.putF (cts R5) x.n.c))) := Lib.hid (fun u hu hM => rwith_any A5 R5.length c5 R5 x.n u rfl (by have := LN.out.1; omega) hM (DI.out u hu).n DZ.out.2.2 LN.out.2)
                  rw [V34.out] at WI
                  have f9 := fun u hu => DC.out 9 _ rfl u hu
                  have f10 := fun u hu => DC.out 10 _ rfl u hu
                  have f11 := fun u hu => DC.out 11 _ rfl u hu
                  have f12 := fun u hu => DC.out 12 _ rfl u hu
                  have f13 := fun u hu => DC.out 13 _ rfl u hu
                  have f14 := fun u hu => DC.out 14 _ rfl u hu
                  clear hisd
                  go_upto_region 11 with fail
                  have XD : u4.drew.cell? ⟨g2, 0, none⟩ = some (.slice A5 R5.length c5) := (L5.out.below (Below.drew (Below.refl _ _))).cell
                  (refine wp_region_noPanic ?_; refine wp_region_held_drew (S := (fun u : World => But (· = g2) U u)) (by kernel_rfl) ?_ (fun hHeld => ?_); exact O5.out.drew)
                  (refine tkW 1 ?_; try simp only [gmS])
                  (refine tkW 2 ?_; try simp only [gmS])
                  (refine tkW 3 ?_; try simp only [gmS])
                  (refine tkW 4 ?_; try simp only [gmS])
                  (refine tkW 5 ?_; try simp only [gmS])
                  (refine rdW 0 (fun K hK => ?_); go_simp)
                  (refine hK.out _ _ hHeld (fun hHeld2 => ?_); clear hK K hHeld; have hHeld := hHeld2; clear hHeld2; try simp only [gmS])
                  (refine rdW 6 (fun K hK => ?_); go_simp)
                  refine (WI.out _ hHeld (L5.out.ms.below (Below.drew (Below.refl _ _)))).mono ?_
                  rintro e u6 ⟨A6, c6, R6, rfl, M6, he6, hc6, b6⟩
                  have Y0 := (Below.block b6 g2 (lt_of_block' (show u4.drew.heap[g2]? = _ from L5.out.box))).trans (show u4.drew.heap[g2]? = _ from L5.out.box)
                  have Y1 : u6.cell? ⟨g2, 0, none⟩ = some (.slice A5 R5.length c5) := by have := cell_of_row u6 g2 0 _ _ _ Y0; simpa using this
                  have Y2 := free_blk Y0 0
                  have O6 := But.trans hHeld (But.of_below b6)
                  (refine hK.out _ _ O6 (fun hHeld2 => ?_); clear hK K hHeld; have hHeld := hHeld2; clear hHeld2; try simp only [gmS])
                  (refine rdW 7 (fun K hK => ?_); go_simp)
                  have O7 := But.set O6 (p := ⟨g2, 0, none⟩) rfl (.slice A6 R6.length c6)
                  (refine hK.out _ _ O7 (fun hHeld2 => ?_); clear hK K hHeld; have hHeld := hHeld2; clear hHeld2; try simp only [gmS])
                  (refine wpAnyH_done (by kernel_rfl) ?_ _; refine NoPanic.normal ?_)
                  have L7 := Lib.hid (Live.set Y0 M6 hc6)
                  have OO7 := Lib.hid O7
                  have LN7 : Hid (R6.length ≤ n + (k + 1) ∧ At.Srt (cts R6)) := Lib.hid (by
                    rw [← ST.out] at he6
                    refine ⟨?_, by rw [he6]; exact S1.out⟩
                    have h1 := S2.out
                    rw [← he6, cts_len, cts_len] at h1
                    have := LN.out.1
                    omega)
                  have PE7 : Hid (PP = (match rpatchGo (cts l) (cts R6) ((ds.drop (k + 1)).map DV.d) with | none => ([], 12) | some r => (r, 0))) := Lib.hid (by rw [he6, ← ST.out]; exact STP.out)
                  clear hHeld O6 O7 Y0 Y1 Y2 M6 he6 hc6 b6 e0 e1 e2 XD
                  go_wp2_with fail
                  exact ⟨⟨k + 1, A6, c6, R6, by omega, by go_num, L7, OO7, LN7, PE7⟩, by simp [intOf]; omega⟩
                | false =>
                  have ST : Hid (stepR (cts R5) x.d = woF (cts R5) x.id) := Lib.hid (by unfold stepR; rw [show x.d.is = false from hisd]; rfl)
                  clear hisd
                  go_upto_region 12 with fail
                  have XD : u4.drew.cell? ⟨g2, 0, none⟩ = some (.slice A5 R5.length c5) := (L5.out.below (Below.drew (Below.refl _ _))).cell
                  (refine wp_region_noPanic ?_; refine wp_region_held_drew (S := (fun u : World => But (· = g2) U u)) (by kernel_rfl) ?_ (fun hHeld => ?_); exact O5.out.drew)
                  (refine tkW 1 ?_; try simp only [gmS])
                  (refine tkW 2 ?_; try simp only [gmS])
                  (refine tkW 3 ?_; try simp only [gmS])
                  (refine tkW 4 ?_; try simp only [gmS])
                  (refine tkW 5 ?_; try simp only [gmS])
                  (refine rdW 0 (fun K hK => ?_); go_simp)
                  (refine hK.out _ _ hHeld (fun hHeld2 => ?_); clear hK K hHeld; have hHeld := hHeld2; clear hHeld2; try simp only [gmS])
                  (refine rdW 6 (fun K hK => ?_); go_simp)
                  refine (rwithout_any A5 R5.length c5 R5 x.id _ rfl (L5.out.ms.below (Below.drew (Below.refl _ _)))).mono ?_
                  rintro e u6 ⟨A6, c6, R6, rfl, M6, he6, hc6, b6⟩
                  have Y0 := (Below.block b6 g2 (lt_of_block' (show u4.drew.heap[g2]? = _ from L5.out.box))).trans (show u4.drew.heap[g2]? = _ from L5.out.box)
                  have Y1 : u6.cell? ⟨g2, 0, none⟩ = some (.slice A5 R5.length c5) := by have := cell_of_row u6 g2 0 _ _ _ Y0; simpa using this
                  have Y2 := free_blk Y0 0
                  have O6 := But.trans hHeld (But.of_below b6)
                  (refine hK.out _ _ O6 (fun hHeld2 => ?_); clear hK K hHeld; have hHeld := hHeld2; clear hHeld2; try simp only [gmS])
                  (refine rdW 7 (fun K hK => ?_); go_simp)
                  have O7 := But.set O6 (p := ⟨g2, 0, none⟩) rfl (.slice A6 R6.length c6)
                  (refine hK.out _ _ O7 (fun hHeld2 => ?_); clear hK K hHeld; have hHeld := hHeld2; clear hHeld2; try simp only [gmS])
                  (refine wpAnyH_done (by kernel_rfl) ?_ _; refine NoPanic.normal ?_)
                  have L7 := Lib.hid (Live.set Y0 M6 hc6)
                  have OO7 := Lib.hid O7
                  have LN7 : Hid (R6.length ≤ n + (k + 1) ∧ At.Srt (cts R6)) := Lib.hid (by
                    rw [← ST.out] at he6
                    refine ⟨?_, by rw [he6]; exact S1.out⟩
                    have h1 := S2.out
                    rw [← he6, cts_len, cts_len] at h1
                    have := LN.out.1
                    omega)
                  have PE7 : Hid (PP = (match rpatchGo (cts l) (cts R6) ((ds.drop (k + 1)).map DV.d) with | none => ([], 12) | some r => (r, 0))) := Lib.hid (by rw [he6, ← ST.out]; exact STP.out)
                  clear hHeld O6 O7 Y0 Y1 Y2 M6 he6 hc6 b6 e0 e1 e2 XD
                  go_wp2_with fail
                  exact ⟨⟨k + 1, A6, c6, R6, by omega, by go_num, L7, OO7, LN7, PE7⟩, by simp [intOf]; omega⟩
        · obtain rfl : k = m := by omega
          have dk : decide ((k : Int) < (k : Int)) = false := by simp
          have PE2 : Hid (PP = (cts R5, 0)) := Lib.hid (by rw [PE.out, List.drop_of_length_le (by rw [← HN2.out]; exact Nat.le_refl _)]; rfl)
          have FIN := box_fin (w := w) (b4 := g + 1) (k := 0) LV.out.ms LV.out.cap (R4.out _ (CB.out _ OB.out)) (by omega) (BB.out _ (CB.out _ OB.out))
          rw [← PE2.out] at FIN
          have FL := Lib.hid FIN.1
          have FR := Lib.hid FIN.2
          obtain ⟨-, m0, fz⟩ := CF.out _ (CB.out _ OB.out)
          have x0 := LV.out.cell
          have g1 : decide ((1000000 : Int) < (R5.length : Int)) = false := by have := LN.out.1; simp; omega
          clear FIN hlt PE
          go_wp2_with fail
          refine bodyPost_ret (results_cell2 (i := 4) (j := 5) rfl rfl FL.out rfl) rfl ?_
          exact FR.out
end Go.Proofs.YtlejeelmlclnkaaGreatDoor
namespace Go.Proofs.YtlejeelmlclnkaaGreatDoor
open Go.RowKit

theorem few_len5 {l : List RO} (h : fewM (cts l) = true) : l.length ≤ 30 := by
  unfold fewM at h
  rw [Bool.and_eq_true, decide_eq_true_eq, cts_len] at h
  exact h.1
theorem few_two5 {l m : List RO} {A B : Option Addr} {c d : Nat} : allFew [⟨A, c, l⟩, ⟨B, d, m⟩] = (fewM (cts l) && fewM (cts m)) := by simp [allFew]
theorem few_sml5 {l : List RO} (h : fewM (cts l) = true) : ∀ r ∈ l, Sml r.c := fun r hr => by
  unfold fewM at h
  rw [Bool.and_eq_true, List.all_eq_true] at h
  have := h.2 r.c (List.mem_map.2 ⟨r, hr, rfl⟩)
  unfold fewO at this
  simp only [Bool.and_eq_true, decide_eq_true_eq] at this
  exact ⟨by have := this.1.1.1.2; omega⟩
theorem diffF_len5 (a b : List At.Ob) : (At.diffF a b).length ≤ a.length + b.length := by
  unfold At.diffF
  split
  · unfold At.diffG
    exact Nat.le_trans (List.length_filter_le _ _) (At.pairs_len _ _ _)
  · simp
theorem ds_of5 {w : World} {L : List At.Dl} {e : Ending} {w' : World} (h : DsE w L e w') (hl : L.length ≤ 10000) : ∃ (A : Option Addr) (c : Nat) (R : List DV), e = .returned (.slice A R.length c) ∧ Ds w' A R ∧ R.map DV.d = L ∧ Below w.heap.size w w' := by
  obtain ⟨A, c, R, h1, h2, h3, h4, h5, h6⟩ := h
  exact ⟨A, c, R, h1, ⟨h2, fun d hd => ⟨(h3 d hd).1.below h6, (h3 d hd).2⟩, by rw [← h4] at hl; simpa using hl⟩, h4, h6⟩
theorem fewDs_dm {w : World} {A : Option Addr} {l : List DV} (h : fewDs l = true) (hr : Rd w A (dvsC l)) (hd : ∀ d ∈ l, DlIn w d) : Dm w A l ∧ l.length ≤ 30 := by
  unfold fewDs at h
  rw [Bool.and_eq_true, decide_eq_true_eq, List.all_eq_true] at h
  refine ⟨⟨hr, fun d hm => ⟨(hd d hm).1.1, (hd d hm).2.1.1⟩, fun d hm => ?_, by omega⟩, h.1⟩
  have h2 := h.2 d hm
  unfold fewD at h2
  simp only [Bool.and_eq_true, decide_eq_true_eq] at h2
  exact ⟨by have := h2.1.1; omega, few_sz h2.1.2 (hd d hm).1.2.1, few_sz h2.2 (hd d hm).2.1.2.1⟩
theorem pts_bound {l : List At.Ob} (h : ∀ o ∈ l, o.refs.length ≤ 100000) (id : Tx) : (pointsM l id).1.length ≤ 1000000 := by
  unfold pointsM
  split
  · cases hL : At.look l id with
    | none => simp
    | some o =>
      have ho := h o (At.look_mem hL)
      simp only
      split
      · simp
      · split
        · cases hp : ptsF l o.refs with
          | none => simp
          | some P => simp only; rw [ptsF_len l _ _ hp]; omega
        · simp
  · simp
theorem refers_bound {l : List RO} (id : Tx) (h : l.length ≤ 100) : (refersM (cts l) id).length ≤ 1000000 := by
  unfold refersM
  split
  · unfold refersL
    rw [List.length_map]
    have h1 := List.length_filter_le (fun o : At.Ob => decide (id ∈ o.refs)) (cts l)
    rw [cts_len] at h1
    omega
  · simp
set_option maxHeartbeats 40000000 in
set_option maxRecDepth 100000 in
theorem walk_AtlasMatchesReference (A : Option Addr) (c : Nat) (l : List RO) (B : Option Addr) (d : Nat) (l' : List RO) (o : RO) (s : ByteArray) (D : Option Addr) (e : Nat) (ds : List DV) (w : World) (hc : l.length ≤ c) (hcm : c ≤ 9223372036854775807) (h : Mw w A l) (hd : l'.length ≤ d) (hdm : d ≤ 9223372036854775807) (h2 : Mw w B l') (hO : ObIn w o) (hs : s.size ≤ maxLen) (hse : ds.length ≤ e) (hsem : e ≤ 9223372036854775807) (hsr : Rd w D (dvsC ds)) (hsi : ∀ x ∈ ds, DlIn w x) (ht : Tab w) :
    Calls Tryz.prog 7 #[.agg #[.slice A l.length c], .agg #[.slice B l'.length d], roA o, .string s, .slice D ds.length e] w fun e w' => e = .returned (.bool true) ∧ Below w.heap.size w w' := by
  obtain ⟨id, rfl⟩ : ∃ id, s = mkB id := ⟨s.data.toList, (mkB_of s).symm⟩
  have HM := Lib.hid h
  have HM2 := Lib.hid h2
  have HT := Lib.hid ht
  have HI := Lib.hid hO
  have HSR := Lib.hid hsr
  have HSI := Lib.hid hsi
  obtain ⟨B1, r1, v1, -⟩ := hO.1.rs
  obtain ⟨B2, r2, v2, -⟩ := hO.1.ts
  have eo : roA o = .agg #[.string (mkB o.c.id), .int .i64 o.c.kind, .int .i64 o.c.x, .int .i64 o.c.y, .slice B1 o.c.refs.length r1, .slice B2 o.c.tags.length r2] := by unfold roA; rw [v1, v2]
  have EOA := Lib.hid eo
  rw [eo]
  obtain ⟨n, hn⟩ : ∃ n, n = l.length := ⟨_, rfl⟩
  obtain ⟨m, hm⟩ : ∃ m, m = l'.length := ⟨_, rfl⟩
  obtain ⟨q, hq⟩ : ∃ q, q = ds.length := ⟨_, rfl⟩
  have HN := Lib.hid hn
  have HN2 := Lib.hid hm
  have HN3 := Lib.hid hq
  rw [← hn] at hc ⊢
  rw [← hm] at hd ⊢
  rw [← hq] at hse ⊢
  obtain ⟨w1, hw1⟩ : ∃ w1, w1 = ((w.alloc (.cells #[.slice A n c] 24)).alloc (.cells #[.slice B m d] 24)).alloc (.cells #[.string (mkB o.c.id), .int .i64 o.c.kind, .int .i64 o.c.x, .int .i64 o.c.y, .slice B1 o.c.refs.length r1, .slice B2 o.c.tags.length r2] 43) := ⟨_, rfl⟩
  obtain ⟨g, hg⟩ : ∃ g, g = w.heap.size := ⟨_, rfl⟩
  have X0 : w1.heap[g]? = some (.cells #[.slice A n c] 24 (0, 0)) := by rw [hw1, hg]; exact (alloc_old _ _ (by simp; omega)).trans ((alloc_old _ _ (by simp)).trans (heap_alloc_new w _))
  have X1 : w1.heap[g + 1]? = some (.cells #[.slice B m d] 24 (0, 0)) := by rw [hw1, hg]; exact (alloc_old _ _ (by simp)).trans (alloc_new' _ _ _ (by simp))
  have X2 : w1.heap[g + 2]? = some (.cells #[.string (mkB o.c.id), .int .i64 o.c.kind, .int .i64 o.c.x, .int .i64 o.c.y, .slice B1 o.c.refs.length r1, .slice B2 o.c.tags.length r2] 43 (0, 0)) := by rw [hw1, hg]; exact alloc_new' _ _ _ (by simp)
  have BX : Below w.heap.size w w1 := by rw [hw1]; exact (((Below.refl _ _).alloc (Nat.le_refl _) _).alloc (by simp) _).alloc (by simp; omega) _
  have z1 : w1.heap.size = g + 3 := by rw [hw1, hg]; simp
  have EO : Hid (∀ u, OldB w1 u → ∀ f v, ([.string (mkB o.c.id), .int .i64 o.c.kind, .int .i64 o.c.x, .int .i64 o.c.y, .slice B1 o.c.refs.length r1, .slice B2 o.c.tags.length r2] : List Value)[f]? = some v → u.cell? ⟨g + 2, f, none⟩ = some v) := Lib.hid (fun u hu f v hv => (cell_of_row u (g + 2) f _ _ _ ((hu.block _ (by omega)).trans X2)).trans (by simpa using hv))
  have ENV : Hid (∀ u, OldB w1 u → u.cell? ⟨g, 0, none⟩ = some (.slice A n c) ∧ u.cell? ⟨g + 1, 0, none⟩ = some (.slice B m d) ∧ Below w.heap.size w u) := Lib.hid (fun u hu => ⟨by have := cell_of_row u g 0 _ _ _ ((hu.block _ (by omega)).trans X0); simpa using this, by have := cell_of_row u (g + 1) 0 _ _ _ ((hu.block _ (by omega)).trans X1); simpa using this, BX.trans (Below.mono hu BX.size)⟩)
  have HD := Lib.hid (head_any w1 (HT.out.keep BX))
  clear h h2 ht hn hm hq X0 X1 X2 hO v1 v2 eo hsr hsi z1
  go_enter Tryz.func7, Tryz.ntmps7
  go_upto_region 1 with fail
  rw [← hw1]
  clear hw1 BX
  rw [← hg]
  have HG := Lib.hid hg
  clear hg
  go_wp2_with fail
  refine HD.out.mono ?_
  rintro e u1 ⟨rfl, b1⟩
  obtain ⟨k0, k1, bw1⟩ := ENV.out u1 b1
  obtain ⟨x1, hx1'⟩ : ∃ x1, x1 = u1.alloc (.cells #[.slice A n c, .slice B m d] 24) := ⟨_, rfl⟩
  have bx1 : Below u1.heap.size u1 x1 := by rw [hx1']; exact (Below.refl _ _).alloc (Nat.le_refl _) _
  have bwx := bw1.trans (Below.mono bx1 bw1.size)
  have FW := Lib.hid (few_any (some ⟨u1.heap.size, 0, none⟩) 2 2 [⟨A, c, l⟩, ⟨B, d, l'⟩] x1 rfl (by decide) (by rw [hx1', HN.out, HN2.out]; exact Rd.of_row (heap_alloc_new u1 _) (List.prefix_refl _)) (fun y hy => by
    rcases List.mem_cons.1 hy with rfl | hy
    · exact ⟨HM.out.below bwx, by show l.length ≤ _; rw [← HN.out]; omega⟩
    · rw [List.mem_singleton.1 hy]; exact ⟨HM2.out.below bwx, by show l'.length ≤ _; rw [← HN2.out]; omega⟩))
  rw [few_two5] at FW
  have O1 := Lib.hid (show OldB w1 x1 from OldB.then (show OldB w1 u1 from b1) bx1)
  clear bw1 b1 HD bwx
  go_wp2_with fail
  rw [← hx1']
  clear hx1' bx1 k0 k1
  refine FW.out.mono ?_
  rintro e u2 ⟨rfl, b2⟩
  have O2 := Lib.hid (show OldB w1 u2 from OldB.then O1.out b2)
  obtain ⟨k0, k1, bw2⟩ := ENV.out u2 O2.out
  have BW2 := Lib.hid bw2
  clear b2 O1 FW bw2
  cases hf : (fewM (cts l) && fewM (cts l'))
  · go_wp2_with fail
    go_ret
    exact ⟨rfl, BW2.out⟩
  · rw [Bool.and_eq_true] at hf
    have MS := Lib.hid ((HM.out.below BW2.out).ms hf.1)
    have MT := Lib.hid ((HM2.out.below BW2.out).ms hf.2)
    have S1 := Lib.hid (few_sml5 hf.1)
    have hl : n ≤ 30 := by rw [HN.out]; exact few_len5 hf.1
    have hl2 : m ≤ 30 := by rw [HN2.out]; exact few_len5 hf.2
    have FO := Lib.hid (fewo_any o u2 (HI.out.1.below BW2.out) HI.out.2.1)
    rw [EOA.out] at FO
    have c0 := EO.out u2 O2.out 0 _ rfl
    have c1 := EO.out u2 O2.out 1 _ rfl
    have c2 := EO.out u2 O2.out 2 _ rfl
    have c3 := EO.out u2 O2.out 3 _ rfl
    have c4 := EO.out u2 O2.out 4 _ rfl
    have c5 := EO.out u2 O2.out 5 _ rfl
    clear hf
    go_wp2_with fail
    refine FO.out.mono ?_
    rintro e u3 ⟨rfl, b3⟩
    have O3 := Lib.hid (show OldB w1 u3 from OldB.then O2.out b3)
    have MS := Lib.hid (MS.out.below b3)
    have MT := Lib.hid (MT.out.below b3)
    obtain ⟨k0, k1, bw3⟩ := ENV.out u3 O3.out
    have BW3 := Lib.hid bw3
    clear b3 O2 FO bw3 BW2 c0 c1 c2 c3 c4 c5
    cases hfo : fewO o.c
    · go_wp2_with fail
      go_ret
      exact ⟨rfl, BW3.out⟩
    · have SZ := Lib.hid (few_sz hfo HI.out.2.1)
      clear hfo
      by_cases h3 : (300 : Int) < ((mkB id).size : Int)
      · go_wp2_with fail
        go_ret
        exact ⟨rfl, BW3.out⟩
      · have h4 : decide ((300 : Int) < ((mkB id).size : Int)) = false := decide_eq_false h3
        have FDD := Lib.hid (rfewd_any D q e ds u3 HN3.out (by omega) (HSR.out.below BW3.out) (fun x hx => ⟨⟨(HSI.out x hx).1.1.below BW3.out, (HSI.out x hx).2.1.1.below BW3.out⟩, (HSI.out x hx).1.2.1, (HSI.out x hx).2.1.2.1⟩))
        go_wp2_with fail
        refine FDD.out.mono ?_
        rintro e u4 ⟨rfl, b4⟩
        have O4 := Lib.hid (show OldB w1 u4 from OldB.then O3.out b4)
        have MS := Lib.hid (MS.out.below b4)
        have MT := Lib.hid (MT.out.below b4)
        obtain ⟨k0, k1, bw4⟩ := ENV.out u4 O4.out
        have BW4 := Lib.hid bw4
        clear b4 O3 FDD bw4 BW3
        cases hfd : fewDs ds
        · go_wp2_with fail
          go_ret
          exact ⟨rfl, BW4.out⟩
        · obtain ⟨dm0, dl0⟩ := fewDs_dm hfd HSR.out HSI.out
          have DM := Lib.hid (dm0.below BW4.out)
          have hl3 : q ≤ 30 := by rw [HN3.out]; exact dl0
          clear dm0 dl0 hfd h3
          have ENW : Hid (∀ u, OldB u4 u → u.cell? ⟨g, 0, none⟩ = some (.slice A n c) ∧ u.cell? ⟨g + 1, 0, none⟩ = some (.slice B m d) ∧ Ms u A l ∧ Ms u B l' ∧ ObIs u o ∧ Dm u D ds ∧ Below w.heap.size w u) := Lib.hid (fun u hu => by
            obtain ⟨h1, h2, h3⟩ := ENV.out u (OldB.then O4.out hu)
            exact ⟨h1, h2, MS.out.below hu, MT.out.below hu, HI.out.1.below h3, DM.out.below hu, h3⟩)
          have EOX : Hid (∀ f v, ([.string (mkB o.c.id), .int .i64 o.c.kind, .int .i64 o.c.x, .int .i64 o.c.y, .slice B1 o.c.refs.length r1, .slice B2 o.c.tags.length r2] : List Value)[f]? = some v → ∀ u, OldB u4 u → u.cell? ⟨g + 2, f, none⟩ = some v) := Lib.hid (fun f v hv u hu => EO.out u (OldB.then O4.out hu) f v hv)
          have U0 : Hid (OldB u4 u4) := Lib.hid (Below.refl _ _)
          clear MS MT DM O4 ENV EO k0 k1 BW4
          -- Put
          obtain ⟨k0, k1, ms, mt, oi, dm, bw⟩ := ENW.out u4 U0.out
          have MSu := Lib.hid ms
          have OIu := Lib.hid oi
          have DMu := Lib.hid dm
          have BWu := Lib.hid bw
          clear ms mt oi dm bw
          have c0 := EOX.out 0 _ rfl u4 U0.out
          have c1 := EOX.out 1 _ rfl u4 U0.out
          have c2 := EOX.out 2 _ rfl u4 U0.out
          have c3 := EOX.out 3 _ rfl u4 U0.out
          have c4 := EOX.out 4 _ rfl u4 U0.out
          have c5 := EOX.out 5 _ rfl u4 U0.out
          have CL := Lib.hid (put_any A n c l o _ HN.out (by omega) MSu.out OIu.out SZ.out)
          rw [EOA.out] at CL
          go_wp2_with fail
          refine CL.out.mono ?_
          rintro e v0 ⟨AA0, cc0, R0, rfl, M0, E0, C0, b0⟩
          have dd0 := b0.alloc b0.size (.cells #[.slice AA0 R0.length cc0] 24)
          have L0 := Lib.hid (Live.new M0 C0)
          have E0 := Lib.hid E0
          have U1 := Lib.hid (show OldB u4 _ from OldB.then U0.out dd0)
          clear M0 C0 b0 dd0 CL k0 k1 MSu OIu DMu BWu c0 c1 c2 c3 c4 c5
          go_upto_region 5 with fail
          generalize v0.alloc (.cells #[.slice AA0 R0.length cc0] 24) = u10 at *
          generalize v0.heap.size = g0 at *
          -- ref Put
          obtain ⟨k0, k1, ms, mt, oi, dm, bw⟩ := ENW.out u10 U1.out
          have MSu := Lib.hid ms
          have OIu := Lib.hid oi
          have DMu := Lib.hid dm
          have BWu := Lib.hid bw
          clear ms mt oi dm bw
          have c0 := EOX.out 0 _ rfl u10 U1.out
          have c1 := EOX.out 1 _ rfl u10 U1.out
          have c2 := EOX.out 2 _ rfl u10 U1.out
          have c3 := EOX.out 3 _ rfl u10 U1.out
          have c4 := EOX.out 4 _ rfl u10 U1.out
          have c5 := EOX.out 5 _ rfl u10 U1.out
          have CL := Lib.hid (rput_any A n c l o _ HN.out (by omega) MSu.out OIu.out SZ.out)
          rw [EOA.out] at CL
          go_wp2_with fail
          refine CL.out.mono ?_
          rintro e v1 ⟨AA1, cc1, R1, rfl, M1, E1, C1, b1⟩
          have dd1 := b1.alloc b1.size (.cells #[.slice AA1 R1.length cc1] 24)
          have L1 := Lib.hid (Live.new M1 C1)
          have E1 := Lib.hid E1
          have L0 := Lib.hid (L0.out.below dd1)
          have U2 := Lib.hid (show OldB u4 _ from OldB.then U1.out dd1)
          clear M1 C1 b1 dd1 CL k0 k1 MSu OIu DMu BWu c0 c1 c2 c3 c4 c5
          go_upto_region 6 with fail
          generalize v1.alloc (.cells #[.slice AA1 R1.length cc1] 24) = u11 at *
          generalize v1.heap.size = g1 at *
          -- Drop
          obtain ⟨k0, k1, ms, mt, oi, dm, bw⟩ := ENW.out u11 U2.out
          have MSu := Lib.hid ms
          have OIu := Lib.hid oi
          have DMu := Lib.hid dm
          have BWu := Lib.hid bw
          clear ms mt oi dm bw
          have CL := Lib.hid (drop_any A n c l id _ HN.out MSu.out)
          go_wp2_with fail
          refine CL.out.mono ?_
          rintro e v2 ⟨AA2, cc2, R2, rfl, M2, E2, C2, b2⟩
          have dd2 := b2.alloc b2.size (.cells #[.slice AA2 R2.length cc2] 24)
          have L2 := Lib.hid (Live.new M2 C2)
          have E2 := Lib.hid E2
          have L0 := Lib.hid (L0.out.below dd2)
          have L1 := Lib.hid (L1.out.below dd2)
          have U3 := Lib.hid (show OldB u4 _ from OldB.then U2.out dd2)
          clear M2 C2 b2 dd2 CL k0 k1 MSu OIu DMu BWu
          go_upto_region 7 with fail
          generalize v2.alloc (.cells #[.slice AA2 R2.length cc2] 24) = u12 at *
          generalize v2.heap.size = g2 at *
          -- ref Drop
          obtain ⟨k0, k1, ms, mt, oi, dm, bw⟩ := ENW.out u12 U3.out
          have MSu := Lib.hid ms
          have OIu := Lib.hid oi
          have DMu := Lib.hid dm
          have BWu := Lib.hid bw
          clear ms mt oi dm bw
          have CL := Lib.hid (rdrop_any A n c l id _ HN.out MSu.out)
          go_wp2_with fail
          refine CL.out.mono ?_
          rintro e v3 ⟨AA3, cc3, R3, rfl, M3, E3, C3, b3⟩
          have dd3 := b3.alloc b3.size (.cells #[.slice AA3 R3.length cc3] 24)
          have L3 := Lib.hid (Live.new M3 C3)
          have E3 := Lib.hid E3
          have L0 := Lib.hid (L0.out.below dd3)
          have L1 := Lib.hid (L1.out.below dd3)
          have L2 := Lib.hid (L2.out.below dd3)
          have U4 := Lib.hid (show OldB u4 _ from OldB.then U3.out dd3)
          clear M3 C3 b3 dd3 CL k0 k1 MSu OIu DMu BWu
          go_upto_region 8 with fail
          generalize v3.alloc (.cells #[.slice AA3 R3.length cc3] 24) = u13 at *
          generalize v3.heap.size = g3 at *
          -- Points
          obtain ⟨k0, k1, ms, mt, oi, dm, bw⟩ := ENW.out u13 U4.out
          have MSu := Lib.hid ms
          have OIu := Lib.hid oi
          have DMu := Lib.hid dm
          have BWu := Lib.hid bw
          clear ms mt oi dm bw
          have CL := Lib.hid (points_any A n c l id _ HN.out MSu.out)
          go_wp2_with fail
          refine CL.out.mono ?_
          rintro e v4 ⟨AA4, cc4, rfl, p4, b4⟩
          have L4 := Lib.hid p4
          have L0 := Lib.hid (L0.out.below b4)
          have L1 := Lib.hid (L1.out.below b4)
          have L2 := Lib.hid (L2.out.below b4)
          have L3 := Lib.hid (L3.out.below b4)
          have U5 := Lib.hid (show OldB u4 _ from OldB.then U4.out b4)
          clear p4 b4 CL k0 k1 MSu OIu DMu BWu
          go_upto_region 9 with fail
          -- ref Points
          obtain ⟨k0, k1, ms, mt, oi, dm, bw⟩ := ENW.out v4 U5.out
          have MSu := Lib.hid ms
          have OIu := Lib.hid oi
          have DMu := Lib.hid dm
          have BWu := Lib.hid bw
          clear ms mt oi dm bw
          have CL := Lib.hid (rpoints_any A n c l id _ HN.out MSu.out)
          go_wp2_with fail
          refine CL.out.mono ?_
          rintro e v5 ⟨AA5, cc5, rfl, p5, b5⟩
          have L5 := Lib.hid p5
          have L0 := Lib.hid (L0.out.below b5)
          have L1 := Lib.hid (L1.out.below b5)
          have L2 := Lib.hid (L2.out.below b5)
          have L3 := Lib.hid (L3.out.below b5)
          have L4 := Lib.hid (L4.out.below b5)
          have U6 := Lib.hid (show OldB u4 _ from OldB.then U5.out b5)
          clear p5 b5 CL k0 k1 MSu OIu DMu BWu
          go_upto_region 10 with fail
          -- Patch
          obtain ⟨k0, k1, ms, mt, oi, dm, bw⟩ := ENW.out v5 U6.out
          have MSu := Lib.hid ms
          have OIu := Lib.hid oi
          have DMu := Lib.hid dm
          have BWu := Lib.hid bw
          clear ms mt oi dm bw
          have CL := Lib.hid (patch_any A D n c q e l ds _ HN.out HN3.out (by omega) MSu.out hc DMu.out)
          go_wp2_with fail
          refine CL.out.mono ?_
          rintro e v6 ⟨AA6, cc6, R6, rfl, M6, E6, C6, b6⟩
          have dd6 := b6.alloc b6.size (.cells #[.slice AA6 R6.length cc6] 24)
          have L6 := Lib.hid (Live.new M6 C6)
          have E6 := Lib.hid E6
          have L0 := Lib.hid (L0.out.below dd6)
          have L1 := Lib.hid (L1.out.below dd6)
          have L2 := Lib.hid (L2.out.below dd6)
          have L3 := Lib.hid (L3.out.below dd6)
          have L4 := Lib.hid (L4.out.below dd6)
          have L5 := Lib.hid (L5.out.below dd6)
          have U7 := Lib.hid (show OldB u4 _ from OldB.then U6.out dd6)
          clear M6 C6 b6 dd6 CL k0 k1 MSu OIu DMu BWu
          go_upto_region 11 with fail
          generalize v6.alloc (.cells #[.slice AA6 R6.length cc6] 24) = u16 at *
          generalize v6.heap.size = g6 at *
          -- ref Patch
          obtain ⟨k0, k1, ms, mt, oi, dm, bw⟩ := ENW.out u16 U7.out
          have MSu := Lib.hid ms
          have OIu := Lib.hid oi
          have DMu := Lib.hid dm
          have BWu := Lib.hid bw
          clear ms mt oi dm bw
          have CL := Lib.hid (rpatch_any A D n c q e l ds _ HN.out HN3.out (by omega) MSu.out hc DMu.out)
          go_wp2_with fail
          refine CL.out.mono ?_
          rintro e v7 ⟨AA7, cc7, R7, rfl, M7, E7, C7, b7⟩
          have dd7 := b7.alloc b7.size (.cells #[.slice AA7 R7.length cc7] 24)
          have L7 := Lib.hid (Live.new M7 C7)
          have E7 := Lib.hid E7
          have L0 := Lib.hid (L0.out.below dd7)
          have L1 := Lib.hid (L1.out.below dd7)
          have L2 := Lib.hid (L2.out.below dd7)
          have L3 := Lib.hid (L3.out.below dd7)
          have L6 := Lib.hid (L6.out.below dd7)
          have L4 := Lib.hid (L4.out.below dd7)
          have L5 := Lib.hid (L5.out.below dd7)
          have U8 := Lib.hid (show OldB u4 _ from OldB.then U7.out dd7)
          clear M7 C7 b7 dd7 CL k0 k1 MSu OIu DMu BWu
          go_upto_region 12 with fail
          generalize v7.alloc (.cells #[.slice AA7 R7.length cc7] 24) = u17 at *
          generalize v7.heap.size = g7 at *
          have PB := pts_bound (l := cts l) (fun x hx => by
            obtain ⟨y, hy, rfl⟩ := List.mem_map.1 hx
            exact ((ENW.out u4 (Below.refl _ _)).2.2.1.sz y hy).2) id
          have RB := refers_bound (l := l) id (by rw [← HN.out]; omega)
          have DB := diffF_len5 (cts l) (cts l')
          rw [cts_len, cts_len, ← HN.out, ← HN2.out] at DB
          have Q0 : Hid (At.sameL (cts R0) (cts R1) = true) := Lib.hid (At.sameL_iff.2 (by rw [E0.out, E1.out]))
          have Q2 : Hid (At.sameL (cts R2) (cts R3) = true) := Lib.hid (At.sameL_iff.2 (by rw [E2.out, E3.out]))
          have Q6 : Hid (At.sameL (cts R6) (cts R7) = true) := Lib.hid (At.sameL_iff.2 (by rw [E6.out, E7.out]))
          clear E0 E1 E2 E3 E6 E7
          have ka := L0.out.cell
          have kb := L1.out.cell
          have CL := Lib.hid (rsamem_any AA0 AA1 cc0 cc1 R0 R1 _ _ u17 rfl rfl L0.out.ms L1.out.ms)
          rw [Q0.out] at CL
          go_wp2_with fail
          refine CL.out.mono ?_
          rintro e v8 ⟨rfl, b8⟩
          have L2 := Lib.hid (L2.out.below b8)
          have L3 := Lib.hid (L3.out.below b8)
          have L6 := Lib.hid (L6.out.below b8)
          have L7 := Lib.hid (L7.out.below b8)
          have L4 := Lib.hid (L4.out.below b8)
          have L5 := Lib.hid (L5.out.below b8)
          have U9 := Lib.hid (show OldB u4 _ from OldB.then U8.out b8)
          clear b8 CL ka kb Q0 L0 L1
          have ka := L2.out.cell
          have kb := L3.out.cell
          have CL := Lib.hid (rsamem_any AA2 AA3 cc2 cc3 R2 R3 _ _ v8 rfl rfl L2.out.ms L3.out.ms)
          rw [Q2.out] at CL
          go_wp2_with fail
          refine CL.out.mono ?_
          rintro e v9 ⟨rfl, b9⟩
          have L6 := Lib.hid (L6.out.below b9)
          have L7 := Lib.hid (L7.out.below b9)
          have L4 := Lib.hid (L4.out.below b9)
          have L5 := Lib.hid (L5.out.below b9)
          have U10 := Lib.hid (show OldB u4 _ from OldB.then U9.out b9)
          clear b9 CL ka kb Q2 L2 L3
          have CL := Lib.hid (samePts_any AA4 AA5 cc4 cc5 (pointsM (cts l) id).1 (pointsM (cts l) id).1 _ _ v9 rfl rfl PB PB L4.out L5.out)
          rw [decide_eq_true rfl] at CL
          go_wp2_with fail
          refine CL.out.mono ?_
          rintro e v10 ⟨rfl, b10⟩
          have L6 := Lib.hid (L6.out.below b10)
          have L7 := Lib.hid (L7.out.below b10)
          have U11 := Lib.hid (show OldB u4 _ from OldB.then U10.out b10)
          clear b10 CL L4 L5
          have ka := L6.out.cell
          have kb := L7.out.cell
          have CL := Lib.hid (rsamem_any AA6 AA7 cc6 cc7 R6 R7 _ _ v10 rfl rfl L6.out.ms L7.out.ms)
          rw [Q6.out] at CL
          go_wp2_with fail
          refine CL.out.mono ?_
          rintro e v11 ⟨rfl, b11⟩
          have U12 := Lib.hid (show OldB u4 _ from OldB.then U11.out b11)
          clear b11 CL ka kb Q6 L6 L7
          have K0 : ∀ u, OldB u4 u → u.cell? ⟨g, 0, none⟩ = some (.slice A n c) := fun u hu => (ENW.out u hu).1
          have K1 : ∀ u, OldB u4 u → u.cell? ⟨g + 1, 0, none⟩ = some (.slice B m d) := fun u hu => (ENW.out u hu).2.1
          have W1 : Hid (∀ u, OldB u4 u → Calls Tryz.prog 12 #[.agg #[.slice A n c]] u fun e w' => e = .returned (.bool (At.validM (cts l))) ∧ Below u.heap.size u w') := Lib.hid (fun u hu => avalid_any A c l n u HN.out (ENW.out u hu).2.2.1)
          have W2 : Hid (∀ u, OldB u4 u → Calls Tryz.prog 35 #[.agg #[.slice A n c]] u fun e w' => e = .returned (.bool (At.validM (cts l))) ∧ Below u.heap.size u w') := Lib.hid (fun u hu => rvalidm_any A c l n u HN.out (ENW.out u hu).2.2.1)
          have W3 : Hid (∀ u, OldB u4 u → Calls Tryz.prog 17 #[.agg #[.slice A n c], .agg #[.slice B m d]] u fun e w' => e = .returned (.bool (At.sameL (cts l) (cts l'))) ∧ Below u.heap.size u w') := Lib.hid (fun u hu => asame_any A B c d l l' n m u HN.out HN2.out (ENW.out u hu).2.2.1 (ENW.out u hu).2.2.2.1)
          have W4 : Hid (∀ u, OldB u4 u → Calls Tryz.prog 16 #[.agg #[.slice A n c], .agg #[.slice B m d]] u fun e w' => e = .returned (.bool (At.sameL (cts l) (cts l'))) ∧ Below u.heap.size u w') := Lib.hid (fun u hu => rsamem_any A B c d l l' n m u HN.out HN2.out (ENW.out u hu).2.2.1 (ENW.out u hu).2.2.2.1)
          have W5 : Hid (∀ u, OldB u4 u → Calls Tryz.prog 36 #[.agg #[.slice A n c], .string (mkB id)] u fun e w' => e = .returned (.int .i64 (findR (cts l) id)) ∧ Below u.heap.size u w') := Lib.hid (fun u hu => afind_any A n c l id u HN.out (ENW.out u hu).2.2.1)
          have W6 : Hid (∀ u, OldB u4 u → Calls Tryz.prog 37 #[.agg #[.slice A n c], .string (mkB id)] u fun e w' => e = .returned (.int .i64 (findR (cts l) id)) ∧ Below u.heap.size u w') := Lib.hid (fun u hu => rfind_any A c l id n u HN.out (ENW.out u hu).2.2.1)
          have W7 : Hid (∀ u, OldB u4 u → Calls Tryz.prog 39 #[.agg #[.slice A n c], .string (mkB id)] u (StrsE u (refersM (cts l) id))) := Lib.hid (fun u hu => refers_any A n c l id u HN.out (ENW.out u hu).2.2.1)
          have W8 : Hid (∀ u, OldB u4 u → Calls Tryz.prog 40 #[.agg #[.slice A n c], .string (mkB id)] u (StrsE u (refersM (cts l) id))) := Lib.hid (fun u hu => rrefers_any A n c l id u HN.out (ENW.out u hu).2.2.1)
          have W9 : Hid (∀ u, OldB u4 u → Calls Tryz.prog 13 #[.agg #[.slice A n c], .agg #[.slice B m d]] u fun e w' => ∃ (A6 : Option Addr) (c6 : Nat) (R : List DV), e = .returned (.slice A6 R.length c6) ∧ Ds w' A6 R ∧ R.map DV.d = At.diffF (cts l) (cts l') ∧ Below u.heap.size u w') := Lib.hid (fun u hu => (diff_any A B n c m d l l' u HN.out HN2.out (by omega) (by omega) hc hd (ENW.out u hu).2.2.1 (ENW.out u hu).2.2.2.1).mono fun e w' hx => ds_of5 hx (by omega))
          have WA : Hid (∀ u, OldB u4 u → Calls Tryz.prog 41 #[.agg #[.slice A n c], .agg #[.slice B m d]] u fun e w' => ∃ (A6 : Option Addr) (c6 : Nat) (R : List DV), e = .returned (.slice A6 R.length c6) ∧ Ds w' A6 R ∧ R.map DV.d = At.diffF (cts l) (cts l') ∧ Below u.heap.size u w') := Lib.hid (fun u hu => (rdiff_any A B n c m d l l' u HN.out HN2.out (by omega) hc (ENW.out u hu).2.2.1 (ENW.out u hu).2.2.2.1).mono fun e w' hx => ds_of5 hx (by omega))
          have WB : Hid (∀ u, OldB u4 u → Calls Tryz.prog 19 #[.agg #[.slice A n c]] u fun e w' => e = .returned (.string (mkB (digestM (cts l)))) ∧ Below u.heap.size u w') := Lib.hid (fun u hu => adigest_any A n c l u HN.out (by omega) (ENW.out u hu).2.2.1 (HT.out.keep (ENW.out u hu).2.2.2.2.2.2))
          have WC : Hid (∀ u, OldB u4 u → Calls Tryz.prog 42 #[.agg #[.slice A n c]] u fun e w' => e = .returned (.string (mkB (digestM (cts l)))) ∧ Below u.heap.size u w') := Lib.hid (fun u hu => rdigestm_any A n c l u HN.out (by omega) (ENW.out u hu).2.2.1 S1.out)
          have BF : Hid (∀ u, OldB u4 u → Below w.heap.size w u) := Lib.hid (fun u hu => (ENW.out u hu).2.2.2.2.2.2)
          clear ENW EOX S1 HI HSR HSI EOA DB PB
          generalize At.validM (cts l) = vm at *
          generalize At.sameL (cts l) (cts l') = sl at *
          generalize findR (cts l) id = fr at *
          generalize refersM (cts l) id = rl at *
          generalize At.diffF (cts l) (cts l') = dfl at *
          generalize digestM (cts l) = dgm at *
          have tdg := mkB_tl dgm
          go_upto_region 13 with fail
          (refine wp_region_noPanic ?_; refine wp_region_held_drew (S := (OldB u4)) (by kernel_rfl) ?_ (fun hHeld => ?_); exact Below.drew U12.out)
          (refine tkW 0 ?_; try simp only [gmS])
          (refine tkW 2 ?_; try simp only [gmS])
          (refine rdW 1 (fun K hK => ?_); go_simp)
          refine (W1.out _ hHeld).mono ?_
          rintro e y1 ⟨rfl, b1⟩
          (refine hK.out _ _ (OldB.then hHeld b1) (fun hHeld2 => ?_); clear hK K hHeld; have hHeld := hHeld2; clear hHeld2; try simp only [gmS])
          (refine rdW 3 (fun K hK => ?_); go_simp)
          refine (W2.out _ hHeld).mono ?_
          rintro e y2 ⟨rfl, b2⟩
          (refine hK.out _ _ (OldB.then hHeld b2) (fun hHeld2 => ?_); clear hK K hHeld; have hHeld := hHeld2; clear hHeld2; try simp only [gmS])
          (refine tkW 4 ?_; try simp only [gmS])
          (refine tkW 5 ?_; try simp only [gmS])
          (refine tkK 6 ?_; try simp only [gmS])
          (refine tkK 7 ?_; try simp only [gmS])
          (refine tkK 9 ?_; try simp only [gmS])
          (refine tkK 10 ?_; try simp only [gmS])
          (refine rdW 8 (fun K hK => ?_); go_simp)
          refine (W3.out _ hHeld).mono ?_
          rintro e y3 ⟨rfl, b3⟩
          (refine hK.out _ _ (OldB.then hHeld b3) (fun hHeld2 => ?_); clear hK K hHeld; have hHeld := hHeld2; clear hHeld2; try simp only [gmS])
          (refine rdW 11 (fun K hK => ?_); go_simp)
          refine (W4.out _ hHeld).mono ?_
          rintro e y4 ⟨rfl, b4⟩
          (refine hK.out _ _ (OldB.then hHeld b4) (fun hHeld2 => ?_); clear hK K hHeld; have hHeld := hHeld2; clear hHeld2; try simp only [gmS])
          (refine tkK 12 ?_; try simp only [gmS])
          (refine tkW 13 ?_; try simp only [gmS])
          (refine tkW 14 ?_; try simp only [gmS])
          (refine tkK 15 ?_; try simp only [gmS])
          (refine tkK 16 ?_; try simp only [gmS])
          (refine tkK 18 ?_; try simp only [gmS])
          (refine tkK 19 ?_; try simp only [gmS])
          (refine rdW 17 (fun K hK => ?_); go_simp)
          refine (W5.out _ hHeld).mono ?_
          rintro e y5 ⟨rfl, b5⟩
          (refine hK.out _ _ (OldB.then hHeld b5) (fun hHeld2 => ?_); clear hK K hHeld; have hHeld := hHeld2; clear hHeld2; try simp only [gmS])
          (refine rdW 20 (fun K hK => ?_); go_simp)
          refine (W6.out _ hHeld).mono ?_
          rintro e y6 ⟨rfl, b6⟩
          (refine hK.out _ _ (OldB.then hHeld b6) (fun hHeld2 => ?_); clear hK K hHeld; have hHeld := hHeld2; clear hHeld2; try simp only [gmS])
          (refine tkK 21 ?_; try simp only [gmS])
          (refine tkW 22 ?_; try simp only [gmS])
          (refine tkW 23 ?_; try simp only [gmS])
          (refine tkK 24 ?_; try simp only [gmS])
          (refine tkK 25 ?_; try simp only [gmS])
          (refine tkK 27 ?_; try simp only [gmS])
          (refine tkK 28 ?_; try simp only [gmS])
          (refine rdW 26 (fun K hK => ?_); go_simp)
          refine (W7.out _ hHeld).mono ?_
          rintro e y7 ⟨F1, f1, rfl, r7, b7⟩
          (refine hK.out _ _ (OldB.then hHeld b7) (fun hHeld2 => ?_); clear hK K hHeld; have hHeld := hHeld2; clear hHeld2; try simp only [gmS])
          (refine rdW 29 (fun K hK => ?_); go_simp)
          refine (W8.out _ hHeld).mono ?_
          rintro e y8 ⟨F2, f2, rfl, r8, b8⟩
          (refine hK.out _ _ (OldB.then hHeld b8) (fun hHeld2 => ?_); clear hK K hHeld; have hHeld := hHeld2; clear hHeld2; try simp only [gmS])
          have SS := Lib.hid (rsames_any F1 F2 f1 f2 rl rl _ _ y8 rfl rfl RB RB (r7.below b8) r8)
          rw [decide_eq_true rfl] at SS
          (refine rdW 30 (fun K hK => ?_); go_simp)
          refine SS.out.mono ?_
          rintro e y9 ⟨rfl, b9⟩
          (refine hK.out _ _ (OldB.then hHeld b9) (fun hHeld2 => ?_); clear hK K hHeld; have hHeld := hHeld2; clear hHeld2; try simp only [gmS])
          (refine tkW 31 ?_; try simp only [gmS])
          (refine tkW 32 ?_; try simp only [gmS])
          have OZ := Lib.hid hHeld
          (refine wpAnyH_done (by kernel_rfl) ?_ _; refine NoPanic.normal ?_)
          clear hHeld SS r7 r8 b1 b2 b3 b4 b5 b6 b7 b8 b9 W1 W2 W3 W4 W5 W6 W7 W8
          go_upto_region 14 with fail
          (refine wp_region_noPanic ?_; refine wp_region_held_drew (S := (OldB u4)) (by kernel_rfl) ?_ (fun hHeld => ?_); exact Below.drew OZ.out)
          (refine tkW 0 ?_; try simp only [gmS])
          (refine tkW 1 ?_; try simp only [gmS])
          (refine tkK 2 ?_; try simp only [gmS])
          (refine tkW 3 ?_; try simp only [gmS])
          (refine tkW 4 ?_; try simp only [gmS])
          (refine tkK 5 ?_; try simp only [gmS])
          (refine tkW 6 ?_; try simp only [gmS])
          (refine tkW 7 ?_; try simp only [gmS])
          (refine tkK 8 ?_; try simp only [gmS])
          (refine tkK 9 ?_; try simp only [gmS])
          (refine tkK 11 ?_; try simp only [gmS])
          (refine tkK 12 ?_; try simp only [gmS])
          (refine rdW 10 (fun K hK => ?_); go_simp)
          refine (W9.out _ hHeld).mono ?_
          rintro e z1 ⟨F1, f1, G1, rfl, d1, m1, b1⟩
          (refine hK.out _ _ (OldB.then hHeld b1) (fun hHeld2 => ?_); clear hK K hHeld; have hHeld := hHeld2; clear hHeld2; try simp only [gmS])
          (refine rdW 13 (fun K hK => ?_); go_simp)
          refine (WA.out _ hHeld).mono ?_
          rintro e z2 ⟨F2, f2, G2, rfl, d2, m2, b2⟩
          (refine hK.out _ _ (OldB.then hHeld b2) (fun hHeld2 => ?_); clear hK K hHeld; have hHeld := hHeld2; clear hHeld2; try simp only [gmS])
          have SD := Lib.hid (samed_eq F1 F2 G1.length G2.length f1 f2 G1 G2 z2 rfl rfl (by rw [m1, m2]) (d1.below b2) d2)
          (refine rdW 14 (fun K hK => ?_); go_simp)
          refine SD.out.mono ?_
          rintro e z3 ⟨rfl, b3⟩
          (refine hK.out _ _ (OldB.then hHeld b3) (fun hHeld2 => ?_); clear hK K hHeld; have hHeld := hHeld2; clear hHeld2; try simp only [gmS])
          (refine tkW 15 ?_; try simp only [gmS])
          (refine tkW 16 ?_; try simp only [gmS])
          (refine tkK 17 ?_; try simp only [gmS])
          (refine tkK 19 ?_; try simp only [gmS])
          (refine rdW 18 (fun K hK => ?_); go_simp)
          refine (WB.out _ hHeld).mono ?_
          rintro e z4 ⟨rfl, b4⟩
          (refine hK.out _ _ (OldB.then hHeld b4) (fun hHeld2 => ?_); clear hK K hHeld; have hHeld := hHeld2; clear hHeld2; try simp only [gmS])
          (refine rdW 20 (fun K hK => ?_); go_simp)
          refine (WC.out _ hHeld).mono ?_
          rintro e z5 ⟨rfl, b5⟩
          (refine hK.out _ _ (OldB.then hHeld b5) (fun hHeld2 => ?_); clear hK K hHeld; have hHeld := hHeld2; clear hHeld2; try simp only [gmS])
          (refine tkK 21 ?_; try simp only [gmS])
          (refine tkW 22 ?_; try simp only [gmS])
          (refine tkW 23 ?_; try simp only [gmS])
          have OF := Lib.hid hHeld
          (refine wpAnyH_done (by kernel_rfl) ?_ _; refine NoPanic.normal ?_)
          clear hHeld SD d1 d2 m1 m2 b1 b2 b3 b4 b5
          go_wp2_with fail
          go_ret
          exact ⟨rfl, BF.out _ OF.out⟩
end Go.Proofs.YtlejeelmlclnkaaGreatDoor
namespace Go.Proofs.YtlejeelmlclnkaaGreatDoor.lawAtlasMatchesReference
open Go.Proofs.YtlejeelmlclnkaaGreatDoor Go.ChangeShapes Go.WideShapes Go.ChangeAt Go.RowKit
open Go.ChangeMaps (open_string shut_string)

theorem own : ownKnob Tryz.prog.godebug = none := by kernel_rfl
theorem laidOut : laidOutB Tryz.prog = true := by kernel_rfl

theorem bytesStr : Tryz.prog.bytesOf 9 = 16 := by kernel_rfl

set_option maxRecDepth 100000 in
theorem lifted (os : Os) (started : os.Started) (H : Type) (enc : TypeId × Value → H) :
    ReturnsInHanded {} Tryz.checked os 7 .any (fun w args => (Rows.atlasMatchesReferenceSpec.pre enc Tryz.prog Tryz.f7 Rows.atlasMatchesReferenceRow.domain false w args ∧ laidMetH Tryz.prog Rows.atlasMatchesReferenceRow.laid w) ∧ sizedMet enc Tryz.prog Tryz.f7 (OpenSpec.ofChange Rows.atlasMatchesReferenceSpec) false w args) (Rows.atlasMatchesReferenceSpec.post enc Tryz.prog Tryz.f7 false true false false) := by
  refine returnsInHanded_of_change_and (C := Tryz.checked) (X := fun w _ => laidMetH Tryz.prog Rows.atlasMatchesReferenceRow.laid w) (fun _ _ _ hh h => h.of_heap hh) own started (by kernel_rfl) Tryz.func7
    (ChangeSpec.witness_shaped (enc := enc) (C := Tryz.checked) (os := os) (X := fun w _ => laidMetH Tryz.prog Rows.atlasMatchesReferenceRow.laid w) false (World.laidAll Tryz.prog os Rows.atlasMatchesReferenceRow.laid) #[.agg #[.slice none 0 0], .agg #[.slice none 0 0], .agg #[.string .empty, .int .i64 0, .int .i64 0, .int .i64 0, .slice none 0 0, .slice none 0 0], .string .empty, .slice none 0 0] 8 (World.laidAll_os _ _ _)
      (World.shaped_of_ZipB (by kernel_rfl) (by kernel_rfl)) (by kernel_rfl) (by kernel_rfl) (by kernel_rfl)
      (by rw [MakeChecks.laidMetH_plain _ _ _ (by kernel_rfl)]; exact laidMet_laidAll _ (by kernel_rfl) (by kernel_rfl))) ?_
  intro W base args ds gs before hval0 hW _ hsz0 hL _
  have hval : ∀ (j : Nat) t v, Tryz.f7.params[j]? = some t → args[j]? = some v → Value.okWide Tryz.prog W .any base t v := hval0
  have hsz : (DataW.weightsEach Tryz.prog (Tryz.f7.params.toList ++ Rows.atlasMatchesReferenceSpec.plain.varTypes Tryz.prog) (ds ++ gs)).all (· ≤ reachBytes) = true := hsz0
  clear hsz0
  have hW' := hW
  obtain ⟨p, q, hA0, hV, rfl, hfz, hnd⟩ := hW
  have hA : DataW.TrodAll enc Tryz.prog W 0 (fun _ => true) true Tryz.f7.params.toList args.toList ds p := hA0
  rw [Tryz.params7] at hA hval hsz
  obtain ⟨v0, vs0, d0, ds0, p0, q0, hargs, rfl, rfl, h0, r0⟩ := trodAll_cons hA
  obtain ⟨v1, vs1, d1, ds1, p1, q1, rfl, rfl, rfl, h1, r1⟩ := trodAll_cons r0
  obtain ⟨v2, vs2, d2, ds2, p2, q2, rfl, rfl, rfl, h2, r2⟩ := trodAll_cons r1
  obtain ⟨v3, vs3, d3, ds3, p3, q3, rfl, rfl, rfl, h3, r3⟩ := trodAll_cons r2
  obtain ⟨v4, vs4, d4, ds4, p4, q4, rfl, rfl, rfl, h4, r4⟩ := trodAll_cons r3
  obtain ⟨rfl, rfl, rfl⟩ := trodAll_nil r4
  obtain rfl : args = #[v0, v1, v2, v3, v4] := by cases args; simp_all
  obtain ⟨rfl, rfl⟩ := trodVars_none hV
  have k0 := h0
  have lt0 : ∀ x ∈ p0, x.block < W.heap.size := by obtain ⟨m, hm⟩ := k0; exact DataW.trod_lt m _ _ _ hm
  obtain ⟨A0, c0, l0, rfl, u0, uu0, x0⟩ := map_open (hval 0 24 v0 rfl rfl) h0
  have k1 := h1
  have lt1 : ∀ x ∈ p1, x.block < W.heap.size := by obtain ⟨m, hm⟩ := k1; exact DataW.trod_lt m _ _ _ hm
  obtain ⟨A1, c1, l1, rfl, u1, uu1, x1⟩ := map_open (hval 1 24 v1 rfl rfl) h1
  have k2 := h2
  have lt2 : ∀ x ∈ p2, x.block < W.heap.size := by obtain ⟨m, hm⟩ := k2; exact DataW.trod_lt m _ _ _ hm
  obtain ⟨o2, rfl, x2⟩ := obj_open (hval 2 43 v2 rfl rfl) h2
  obtain ⟨s3, rfl, rfl, rfl, w3⟩ := open_string Tryz.underlying9 (hval 3 9 v3 rfl rfl) h3
  have k4 := h4
  have lt4 : ∀ x ∈ p4, x.block < W.heap.size := by obtain ⟨m, hm⟩ := k4; exact DataW.trod_lt m _ _ _ hm
  obtain ⟨a4, n4, e4, rfl⟩ := okWide_slice Tryz.underlying28 (hval 4 28 v4 rfl rfl)
  obtain ⟨A4, c4, l4, g4, u4, uu4, x4, xx4⟩ : ∃ (A : Option Addr) (c : Nat) (l : List DV), Value.slice a4 n4 e4 = .slice A l.length c ∧ l.length ≤ c ∧ c ≤ 9223372036854775807 ∧ Rd W A (dvsC l) ∧ ∀ d ∈ l, DlIn W d := by
    obtain ⟨fuel, hf⟩ := h4
    exact dls_open hf
  injection g4 with q14 q24 q34
  subst q14 q24 q34
  rw [MakeChecks.laidMetH_plain _ _ _ (by kernel_rfl)] at hL
  have hT : Tab W := tab_of hL
  clear hA0 hval0
  refine (walk_AtlasMatchesReference A0 c0 l0 A1 c1 l1 o2 s3 _ _ l4 W u0 uu0 x0 u1 uu1 x1 x2 w3 u4 uu4 x4 xx4 hT).mono fun e W' ⟨he, bel⟩ => ?_
  subst he
  exact ⟨_, rfl, _, _, _, [], _, [], hW', trodAll_mk1 (shut_bool Tryz.underlying4 _), (trodAll_cons_mk (Below.trod laidOut (by kernel_rfl) (of_decide_eq_true (by kernel_rfl)) k0 bel lt0) (trodAll_cons_mk (Below.trod laidOut (by kernel_rfl) (of_decide_eq_true (by kernel_rfl)) k1 bel lt1) (trodAll_cons_mk (Below.trod laidOut (by kernel_rfl) (of_decide_eq_true (by kernel_rfl)) k2 bel lt2) (trodAll_cons_mk (shut_string Tryz.underlying9 w3) (trodAll_cons_mk (Below.trod laidOut (by kernel_rfl) (of_decide_eq_true (by kernel_rfl)) k4 bel lt4) trodAll_mk0))))), rfl, bel.frame _, fun h => by cases h⟩

theorem over : Rows.AtlasMatchesReferenceSaid :=
  OpenClaim.holds_of_wide 7 Tryz.f7 rfl rfl rfl rfl rfl rfl rfl ⟨rfl, rfl, rfl, rfl, rfl⟩ rfl rfl rfl rfl rfl (by kernel_rfl) Tryz.func7 (by kernel_rfl)
    (of_decide_eq_true (by kernel_rfl)) (by unfold Func.isWrapper; first | (rw [if_pos (by decide +kernel)]; kernel_rfl) | (rw [if_neg (by decide +kernel)]; exact ⟨rfl, rfl⟩))
    (fun os started H enc _ => lifted os started H enc)
theorem proved : Rows.AtlasMatchesReferenceCardSaid :=
  Claim7.holds_tied_plain_at .later [] [.data, .data, .data, .data, .pinned] true (true, "4446bfa458c4ebda1cab94b1f93e637eb031f49469088c104b0c2b4c422ead5f") false over (fun _ h => by cases h) (by kernel_rfl) (fun _ h => by cases h) atlasMatchesReference_row_tie rfl ⟨rfl, rfl⟩ (by kernel_rfl) rfl
    (fun f fn hf hfn => by
      obtain rfl : f = 7 := Option.some.inj ((show Tryz.prog.funcNamed "planisphere/planispherelaw12.AtlasMatchesReference" = some 7 by kernel_rfl).symm.trans hf) |>.symm
      obtain rfl : fn = Tryz.f7 := (Option.some.inj (Tryz.func7.symm.trans hfn)).symm
      exact ⟨by kernel_rfl, fun j t ht => by
        rw [Tryz.params7] at ht
        have hm : t ∈ [24, 24, 43, 9, 28] := by simpa using Array.mem_of_getElem? ht
        have hall : ([24, 24, 43, 9, 28].all fun u => !Tryz.prog.wantsStandIn u) = true := by kernel_rfl
        exact (show Tryz.prog.wantsStandIn t = false by simpa using List.all_eq_true.1 hall t hm)⟩)
    (by kernel_rfl)
end Go.Proofs.YtlejeelmlclnkaaGreatDoor.lawAtlasMatchesReference
