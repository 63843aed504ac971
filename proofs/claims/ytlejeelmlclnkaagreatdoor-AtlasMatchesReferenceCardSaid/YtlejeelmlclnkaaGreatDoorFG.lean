/- WALKS: ref12.Deltas (printed by gen_fg.py). -/
import Derived.Test.YtlejeelmlclnkaaGreatDoorFA
import Derived.Test.YtlejeelmlclnkaaGreatDoorWD
set_option linter.unusedSimpArgs false
set_option linter.unusedVariables false
namespace Go.Proofs.YtlejeelmlclnkaaGreatDoor
open Go.RowKit

def lastD (l : List DV) (k : Nat) : Tx := if k = 0 then [] else ((l[k - 1]?).map DV.id).getD []
theorem lastD_succ {l : List DV} {k : Nat} (h : k < l.length) : lastD l (k + 1) = l[k].id := by
  unfold lastD; rw [if_neg (by omega), Nat.add_sub_cancel, List.getElem?_eq_getElem h]; rfl
/-- is a difference of two sides bad, as the reference asks it? -/
def badD (d : At.Dl) : Bool := (!d.was && !d.is) || !At.properB d.was d.id d.old || !At.properB d.is d.id d.new || (d.was && d.is && At.sameO d.old d.new)
theorem okD_bad (d : At.Dl) : At.okD d = !badD d := by
  unfold At.okD badD At.differs
  cases d.was <;> cases d.is <;> cases At.properB _ d.id d.old <;> cases At.properB _ d.id d.new <;> cases At.sameO d.old d.new <;> rfl
theorem okD_id {d : At.Dl} (h : At.okD d = true) : d.id ≠ [] := by
  unfold At.okD At.properB at h
  simp only [Bool.and_eq_true, Bool.or_eq_true] at h
  obtain ⟨⟨⟨h1, -⟩, h3⟩, h4⟩ := h
  rcases h1 with h1 | h1
  · rw [h1, if_pos rfl, Bool.and_eq_true, decide_eq_true_eq] at h3
    rw [h3.1]; exact At.valid_id h3.2
  · rw [h1, if_pos rfl, Bool.and_eq_true, decide_eq_true_eq] at h4
    rw [h4.1]; exact At.valid_id h4.2
set_option maxHeartbeats 40000000 in
set_option maxRecDepth 100000 in
theorem rdeltas_any (A : Option Addr) (n c : Nat) (l : List DV) (w : World) (hn : n = l.length) (h : Dm w A l) :
    Calls Tryz.prog 71 #[.slice A n c] w fun e w' => e = .returned (.bool (At.deltasFrom [] (l.map DV.d))) ∧ Below w.heap.size w w' := by
  have H := Lib.hid h
  have HN := Lib.hid hn
  have hl : n ≤ 10000 := by rw [hn]; exact h.len
  clear h hn
  obtain ⟨R, hR⟩ : ∃ R, At.deltasFrom [] (l.map DV.d) = R := ⟨_, rfl⟩
  have HR : Hid (R = At.deltasFrom (lastD l 0) ((l.drop 0).map DV.d)) := Lib.hid hR.symm
  rw [hR]
  clear hR
  have BW : Hid (Below w.heap.size w w) := Lib.hid (Below.refl _ _)
  go_enter Tryz.func71, Tryz.ntmps71
  go_wp2_with fail
  go_loopw [3] (fun s3 wr => ∃ k : Nat, k ≤ n ∧ s3 = .int .i64 (k : Int) ∧ Hid (R = At.deltasFrom (lastD l k) ((l.drop k).map DV.d)) ∧ Hid (Below w.heap.size w wr)) (fun i _ => n - (intOf i).toNat)
  case atStart => exact ⟨0, Nat.zero_le _, rfl, HR, BW⟩
  case round =>
    clear HR BW
    obtain ⟨k, hk, rfl, HR, BL⟩ := hrel
    by_cases hlt : k < n
    · have hkl : k < l.length := by rw [← HN.out]; exact hlt
      have d1 : (k : Int) < (n : Int) := by omega
      have d2 : (0 : Int) ≤ (k : Int) := by omega
      have k8 : IntKind.i64.wrap ((k : Int) + 1) = (k : Int) + 1 := IntWalk.i64_in _ (by omega)
      obtain ⟨b, off, rfl, hb, hc⟩ := dvs_at (H.out.rd.below BL.out) hkl
      have hi := H.out.is l[k] (List.getElem_mem hkl)
      have sz := H.out.sz l[k] (List.getElem_mem hkl)
      have TB : Hid ((At.lt (lastD l k) l[k].id && At.okD l[k].d) = false → R = false) := Lib.hid (fun h => by rw [HR.out, deltas_drop _ _ hkl, h]; rfl)
      have TG : Hid ((At.lt (lastD l k) l[k].id && At.okD l[k].d) = true → R = At.deltasFrom (lastD l (k + 1)) ((l.drop (k + 1)).map DV.d)) := Lib.hid (fun h => by rw [HR.out, deltas_drop _ _ hkl, h, lastD_succ hkl]; rfl)
      have LT0 : Hid (k = 0 → lastD l k = []) := Lib.hid (fun h => by rw [h]; rfl)
      have LTS : Hid (∀ j, k = j + 1 → wr.cell? ⟨b, off + j * 15, none⟩ = some (.string (mkB (lastD l k)))) := Lib.hid (fun j h => by
        have hk1 : j < l.length := by omega
        obtain ⟨b', off', e', hb', hc'⟩ := dvs_at (H.out.rd.below BL.out) hk1
        obtain ⟨rfl, rfl⟩ : b = b' ∧ off = off' := by injection e' with e'; injection e' with e1 e2; exact ⟨e1, e2⟩
        subst h
        rw [lastD_succ hk1]; have := hc' 0 _ rfl; simpa using this)
      have SO : Hid (∀ u, Below w.heap.size w u → Calls Tryz.prog 110 #[.bool l[k].was, roA l[k].o, .string (mkB l[k].id)] u fun e w' => e = .returned (.bool (At.properB l[k].was l[k].id l[k].o.c)) ∧ Below u.heap.size u w') := Lib.hid (fun u hu => rside_any _ _ _ u (hi.o.below hu) sz.2.1)
      have SN : Hid (∀ u, Below w.heap.size w u → Calls Tryz.prog 110 #[.bool l[k].is, roA l[k].n, .string (mkB l[k].id)] u fun e w' => e = .returned (.bool (At.properB l[k].is l[k].id l[k].n.c)) ∧ Below u.heap.size u w') := Lib.hid (fun u hu => rside_any _ _ _ u (hi.n.below hu) sz.2.2)
      have SM : Hid (∀ u, Below w.heap.size w u → Calls Tryz.prog 53 #[roA l[k].o, roA l[k].n] u fun e w' => e = .returned (.bool (At.sameO l[k].o.c l[k].n.c)) ∧ Below u.heap.size u w') := Lib.hid (fun u hu => rsame_any _ _ u (hi.o.below hu) (hi.n.below hu) sz.2.1.1 sz.2.2.1)
      have OI : Hid (At.okD l[k].d = true → l[k].id ≠ []) := Lib.hid (fun h => okD_id h)
      have OB : Hid (At.okD l[k].d = !badD l[k].d) := Lib.hid (okD_bad _)
      have BD : Hid (badD l[k].d = ((!l[k].was && !l[k].is) || !At.properB l[k].was l[k].id l[k].o.c || !At.properB l[k].is l[k].id l[k].n.c || (l[k].was && l[k].is && At.sameO l[k].o.c l[k].n.c))) := Lib.hid rfl
      obtain ⟨A1, q1, v1, -⟩ := hi.o.rs
      obtain ⟨A2, q2, v2, -⟩ := hi.o.ts
      obtain ⟨A3, q3, v3, -⟩ := hi.n.rs
      obtain ⟨A4, q4, v4, -⟩ := hi.n.ts
      have hd : ∀ f u, (dlL l[k] A1 q1 A2 q2 A3 q3 A4 q4)[f]? = some u → wr.cell? ⟨b, off + k * 15 + f, none⟩ = some u := fun f u hu => hc f u (by rw [dvC_eq v1 v2 v3 v4]; exact hu)
      unfold roA at SO SN SM
      rw [v1, v2] at SO SM
      rw [v3, v4] at SN SM
      obtain ⟨last2, hl2⟩ : ∃ x, lastD l (k + 1) = x := ⟨_, rfl⟩
      have HL2 := Lib.hid hl2
      rw [hl2] at TG
      clear hl2 hi sz v1 v2 v3 v4 hc HR
      generalize lastD l k = last at *
      generalize At.okD l[k].d = ok at *
      generalize badD l[k].d = bd at *
      generalize l[k] = d at *
      have c0 := hd 0 _ rfl
      have c1 := hd 1 _ rfl
      have c2 := hd 2 _ rfl
      have c3 := hd 3 _ rfl
      have c4 := hd 4 _ rfl
      have c5 := hd 5 _ rfl
      have c6 := hd 6 _ rfl
      have c7 := hd 7 _ rfl
      have c8 := hd 8 _ rfl
      have c9 := hd 9 _ rfl
      have c10 := hd 10 _ rfl
      have c11 := hd 11 _ rfl
      have c12 := hd 12 _ rfl
      have c13 := hd 13 _ rfl
      have c14 := hd 14 _ rfl
      simp only [Nat.add_zero] at c0
      have t0 := mkB_tl last
      have t1 := mkB_tl d.id
      have XX := Lib.hid (heap_alloc_new wr (.cells (dlL d A1 q1 A2 q2 A3 q3 A4 q4).toArray 45))
      have BX : Hid (Below wr.heap.size wr (wr.alloc (.cells (dlL d A1 q1 A2 q2 A3 q3 A4 q4).toArray 45))) := Lib.hid ((Below.refl _ _).alloc (Nat.le_refl _) _)
      obtain ⟨g, hg⟩ : ∃ g, wr.heap.size = g := ⟨_, rfl⟩
      have ZU : g < (wr.alloc (.cells (dlL d A1 q1 A2 q2 A3 q3 A4 q4).toArray 45)).heap.size := by rw [← hg]; simp
      obtain ⟨U, hU⟩ : ∃ U, U = wr.alloc (.cells (dlL d A1 q1 A2 q2 A3 q3 A4 q4).toArray 45) := ⟨_, rfl⟩
      have hU2 := hU
      unfold dlL at hU2
      simp only [List.toArray] at hU2
      rw [← hU, hg] at XX
      rw [← hU] at BX ZU
      clear hU
      have HG := Lib.hid hg
      have CC : Hid (∀ u, OldB U u → ∀ (p : Addr) (v : Value), p.block = b → wr.cell? p = some v → u.cell? p = some v) := Lib.hid (fun u hu p v hp hv => (Below.cell (p := p) (BX.out.trans (Below.mono hu BX.out.size)) (by rw [hp]; exact hb)).trans hv)
      have BB : Hid (∀ u, OldB U u → Below w.heap.size w u) := Lib.hid (fun u hu => BL.out.trans (Below.mono (BX.out.trans (Below.mono hu BX.out.size)) BL.out.size))
      have XC : Hid (∀ f v, (dlL d A1 q1 A2 q2 A3 q3 A4 q4)[f]? = some v → ∀ u, OldB U u → u.cell? ⟨g, f, none⟩ = some v) := Lib.hid (fun f v hv u hu => by
        have := cell_of_row u g f _ _ _ ((hu.block g ZU).trans XX.out)
        rw [this]; simpa using hv)
      have e0 := fun u hu => XC.out 0 _ rfl u hu
      have e1 := fun u hu => XC.out 1 _ rfl u hu
      have e2 := fun u hu => XC.out 2 _ rfl u hu
      have e3 := fun u hu => XC.out 3 _ rfl u hu
      have e4 := fun u hu => XC.out 4 _ rfl u hu
      have e5 := fun u hu => XC.out 5 _ rfl u hu
      have e6 := fun u hu => XC.out 6 _ rfl u hu
      have e7 := fun u hu => XC.out 7 _ rfl u hu
      have e8 := fun u hu => XC.out 8 _ rfl u hu
      have e9 := fun u hu => XC.out 9 _ rfl u hu
      have e10 := fun u hu => XC.out 10 _ rfl u hu
      have e11 := fun u hu => XC.out 11 _ rfl u hu
      have e12 := fun u hu => XC.out 12 _ rfl u hu
      have e13 := fun u hu => XC.out 13 _ rfl u hu
      have e14 := fun u hu => XC.out 14 _ rfl u hu
      go_upto_region 5 with fail
      rw [← hU2]
      clear hU2 c0 c1 c2 c3 c4 c5 c6 c7 c8 c9 c10 c11 c12 c13 c14 hd XC XX BX hg
      generalize d.was = wa at *
      generalize d.is = ia at *
      generalize At.properB wa d.id d.o.c = p1 at *
      generalize At.properB ia d.id d.n.c = p2 at *
      generalize At.sameO d.o.c d.n.c = sm at *
      cases wa with
      | false =>
        cases ia with
        | false =>
          (refine wp_region_noPanic ?_; refine wp_region_held_drew (S := (OldB U)) (by kernel_rfl) ?_ (fun hHeld => ?_); exact Below.drew (Below.refl _ _))
          (refine tkW 0 ?_; try simp only [gmS])
          (refine tkW 1 ?_; try simp only [gmS])
          (refine tkW 2 ?_; try simp only [gmS])
          (refine tkW 3 ?_; try simp only [gmS])
          (refine tkK 4 ?_; try simp only [gmS])
          (refine tkK 5 ?_; try simp only [gmS])
          (refine tkK 6 ?_; try simp only [gmS])
          (refine tkW 7 ?_; try simp only [gmS])
          (refine tkW 8 ?_; try simp only [gmS])
          (refine skK 9 ?_; try simp only [gmS])
          (refine skK 10 ?_; try simp only [gmS])
          (refine skK 11 ?_; try simp only [gmS])
          (refine skK 12 ?_; try simp only [gmS])
          (refine skK 13 ?_; try simp only [gmS])
          (refine skK 14 ?_; try simp only [gmS])
          (refine skK 15 ?_; try simp only [gmS])
          (refine skK 16 ?_; try simp only [gmS])
          (refine tkW 17 ?_; try simp only [gmS])
          (refine tkW 18 ?_; try simp only [gmS])
          (refine skK 19 ?_; try simp only [gmS])
          (refine skK 20 ?_; try simp only [gmS])
          (refine skK 21 ?_; try simp only [gmS])
          (refine skK 22 ?_; try simp only [gmS])
          (refine skK 23 ?_; try simp only [gmS])
          (refine skK 24 ?_; try simp only [gmS])
          (refine skK 25 ?_; try simp only [gmS])
          (refine skK 26 ?_; try simp only [gmS])
          (refine tkW 27 ?_; try simp only [gmS])
          (refine tkW 28 ?_; try simp only [gmS])
          (refine skK 29 ?_; try simp only [gmS])
          (refine skK 30 ?_; try simp only [gmS])
          (refine skK 31 ?_; try simp only [gmS])
          (refine skK 32 ?_; try simp only [gmS])
          (refine skK 33 ?_; try simp only [gmS])
          (refine skK 34 ?_; try simp only [gmS])
          (refine skK 35 ?_; try simp only [gmS])
          (refine skK 36 ?_; try simp only [gmS])
          (refine skK 37 ?_; try simp only [gmS])
          (refine skK 38 ?_; try simp only [gmS])
          (refine skK 39 ?_; try simp only [gmS])
          (refine skK 40 ?_; try simp only [gmS])
          (refine skK 41 ?_; try simp only [gmS])
          (refine tkW 42 ?_; try simp only [gmS])
          (refine tkW 43 ?_; try simp only [gmS])
          (refine skK 44 ?_; try simp only [gmS])
          (refine skK 45 ?_; try simp only [gmS])
          (refine skK 46 ?_; try simp only [gmS])
          (refine skK 47 ?_; try simp only [gmS])
          (refine skK 48 ?_; try simp only [gmS])
          (refine skK 49 ?_; try simp only [gmS])
          (refine skK 50 ?_; try simp only [gmS])
          (refine skK 51 ?_; try simp only [gmS])
          (refine skK 52 ?_; try simp only [gmS])
          (refine skK 53 ?_; try simp only [gmS])
          (refine skK 54 ?_; try simp only [gmS])
          (refine skK 55 ?_; try simp only [gmS])
          (refine skK 56 ?_; try simp only [gmS])
          (refine tkW 57 ?_; try simp only [gmS])
          have O2 := Lib.hid hHeld
          (refine wpAnyH_done (by kernel_rfl) ?_ _; refine NoPanic.normal ?_)
          clear hHeld e0 e1 e2 e3 e4 e5 e6 e7 e8 e9 e10 e11 e12 e13 e14 SO SN SM CC
          have RF := Lib.hid (TB.out (by rw [OB.out, BD.out]; simp))
          clear TB TG
          go_wp2_with fail
          go_ret
          exact ⟨by rw [RF.out]; rfl, BB.out _ O2.out⟩
        | true =>
          (refine wp_region_noPanic ?_; refine wp_region_held_drew (S := (OldB U)) (by kernel_rfl) ?_ (fun hHeld => ?_); exact Below.drew (Below.refl _ _))
          (refine tkW 0 ?_; try simp only [gmS])
          (refine tkW 1 ?_; try simp only [gmS])
          (refine tkW 2 ?_; try simp only [gmS])
          (refine tkW 3 ?_; try simp only [gmS])
          (refine tkK 4 ?_; try simp only [gmS])
          (refine tkK 5 ?_; try simp only [gmS])
          (refine tkK 6 ?_; try simp only [gmS])
          (refine tkW 7 ?_; try simp only [gmS])
          (refine tkW 8 ?_; try simp only [gmS])
          (refine tkK 9 ?_; try simp only [gmS])
          (refine tkK 10 ?_; try simp only [gmS])
          (refine tkK 11 ?_; try simp only [gmS])
          (refine tkK 12 ?_; try simp only [gmS])
          (refine tkK 13 ?_; try simp only [gmS])
          (refine tkK 14 ?_; try simp only [gmS])
          (refine rdW 15 (fun K hK => ?_); go_simp)
          refine (SO.out _ (BB.out _ hHeld)).mono ?_
          rintro e u1 ⟨rfl, b1⟩
          (refine hK.out _ _ (OldB.then hHeld b1) (fun hHeld2 => ?_); clear hK K hHeld; have hHeld := hHeld2; clear hHeld2; try simp only [gmS])
          cases p1 with
          | false =>
            (refine tkK 16 ?_; try simp only [gmS])
            (refine tkW 17 ?_; try simp only [gmS])
            (refine tkW 18 ?_; try simp only [gmS])
            (refine skK 19 ?_; try simp only [gmS])
            (refine skK 20 ?_; try simp only [gmS])
            (refine skK 21 ?_; try simp only [gmS])
            (refine skK 22 ?_; try simp only [gmS])
            (refine skK 23 ?_; try simp only [gmS])
            (refine skK 24 ?_; try simp only [gmS])
            (refine skK 25 ?_; try simp only [gmS])
            (refine skK 26 ?_; try simp only [gmS])
            (refine tkW 27 ?_; try simp only [gmS])
            (refine tkW 28 ?_; try simp only [gmS])
            (refine skK 29 ?_; try simp only [gmS])
            (refine skK 30 ?_; try simp only [gmS])
            (refine skK 31 ?_; try simp only [gmS])
            (refine skK 32 ?_; try simp only [gmS])
            (refine skK 33 ?_; try simp only [gmS])
            (refine skK 34 ?_; try simp only [gmS])
            (refine skK 35 ?_; try simp only [gmS])
            (refine skK 36 ?_; try simp only [gmS])
            (refine skK 37 ?_; try simp only [gmS])
            (refine skK 38 ?_; try simp only [gmS])
            (refine skK 39 ?_; try simp only [gmS])
            (refine skK 40 ?_; try simp only [gmS])
            (refine skK 41 ?_; try simp only [gmS])
            (refine tkW 42 ?_; try simp only [gmS])
            (refine tkW 43 ?_; try simp only [gmS])
            (refine skK 44 ?_; try simp only [gmS])
            (refine skK 45 ?_; try simp only [gmS])
            (refine skK 46 ?_; try simp only [gmS])
            (refine skK 47 ?_; try simp only [gmS])
            (refine skK 48 ?_; try simp only [gmS])
            (refine skK 49 ?_; try simp only [gmS])
            (refine skK 50 ?_; try simp only [gmS])
            (refine skK 51 ?_; try simp only [gmS])
            (refine skK 52 ?_; try simp only [gmS])
            (refine skK 53 ?_; try simp only [gmS])
            (refine skK 54 ?_; try simp only [gmS])
            (refine skK 55 ?_; try simp only [gmS])
            (refine skK 56 ?_; try simp only [gmS])
            (refine tkW 57 ?_; try simp only [gmS])
            have O2 := Lib.hid hHeld
            (refine wpAnyH_done (by kernel_rfl) ?_ _; refine NoPanic.normal ?_)
            clear hHeld e0 e1 e2 e3 e4 e5 e6 e7 e8 e9 e10 e11 e12 e13 e14 SO SN SM CC
            have RF := Lib.hid (TB.out (by rw [OB.out, BD.out]; simp))
            clear TB TG
            go_wp2_with fail
            go_ret
            exact ⟨by rw [RF.out]; rfl, BB.out _ O2.out⟩
          | true =>
            (refine tkK 16 ?_; try simp only [gmS])
            (refine tkW 17 ?_; try simp only [gmS])
            (refine tkW 18 ?_; try simp only [gmS])
            (refine tkK 19 ?_; try simp only [gmS])
            (refine tkK 20 ?_; try simp only [gmS])
            (refine tkK 21 ?_; try simp only [gmS])
            (refine tkK 22 ?_; try simp only [gmS])
            (refine tkK 23 ?_; try simp only [gmS])
            (refine tkK 24 ?_; try simp only [gmS])
            (refine rdW 25 (fun K hK => ?_); go_simp)
            refine (SN.out _ (BB.out _ hHeld)).mono ?_
            rintro e u2 ⟨rfl, b2⟩
            (refine hK.out _ _ (OldB.then hHeld b2) (fun hHeld2 => ?_); clear hK K hHeld; have hHeld := hHeld2; clear hHeld2; try simp only [gmS])
            cases p2 with
            | false =>
              (refine tkK 26 ?_; try simp only [gmS])
              (refine tkW 27 ?_; try simp only [gmS])
              (refine tkW 28 ?_; try simp only [gmS])
              (refine skK 29 ?_; try simp only [gmS])
              (refine skK 30 ?_; try simp only [gmS])
              (refine skK 31 ?_; try simp only [gmS])
              (refine skK 32 ?_; try simp only [gmS])
              (refine skK 33 ?_; try simp only [gmS])
              (refine skK 34 ?_; try simp only [gmS])
              (refine skK 35 ?_; try simp only [gmS])
              (refine skK 36 ?_; try simp only [gmS])
              (refine skK 37 ?_; try simp only [gmS])
              (refine skK 38 ?_; try simp only [gmS])
              (refine skK 39 ?_; try simp only [gmS])
              (refine skK 40 ?_; try simp only [gmS])
              (refine skK 41 ?_; try simp only [gmS])
              (refine tkW 42 ?_; try simp only [gmS])
              (refine tkW 43 ?_; try simp only [gmS])
              (refine skK 44 ?_; try simp only [gmS])
              (refine skK 45 ?_; try simp only [gmS])
              (refine skK 46 ?_; try simp only [gmS])
              (refine skK 47 ?_; try simp only [gmS])
              (refine skK 48 ?_; try simp only [gmS])
              (refine skK 49 ?_; try simp only [gmS])
              (refine skK 50 ?_; try simp only [gmS])
              (refine skK 51 ?_; try simp only [gmS])
              (refine skK 52 ?_; try simp only [gmS])
              (refine skK 53 ?_; try simp only [gmS])
              (refine skK 54 ?_; try simp only [gmS])
              (refine skK 55 ?_; try simp only [gmS])
              (refine skK 56 ?_; try simp only [gmS])
              (refine tkW 57 ?_; try simp only [gmS])
              have O2 := Lib.hid hHeld
              (refine wpAnyH_done (by kernel_rfl) ?_ _; refine NoPanic.normal ?_)
              clear hHeld e0 e1 e2 e3 e4 e5 e6 e7 e8 e9 e10 e11 e12 e13 e14 SO SN SM CC
              have RF := Lib.hid (TB.out (by rw [OB.out, BD.out]; simp))
              clear TB TG
              go_wp2_with fail
              go_ret
              exact ⟨by rw [RF.out]; rfl, BB.out _ O2.out⟩
            | true =>
              (refine tkK 26 ?_; try simp only [gmS])
              (refine tkW 27 ?_; try simp only [gmS])
              (refine tkW 28 ?_; try simp only [gmS])
              (refine tkK 29 ?_; try simp only [gmS])
              (refine tkK 30 ?_; try simp only [gmS])
              (refine tkK 31 ?_; try simp only [gmS])
              (refine skK 32 ?_; try simp only [gmS])
              (refine skK 33 ?_; try simp only [gmS])
              (refine tkK 34 ?_; try simp only [gmS])
              (refine tkK 35 ?_; try simp only [gmS])
              (refine skK 36 ?_; try simp only [gmS])
              (refine skK 37 ?_; try simp only [gmS])
              (refine skK 38 ?_; try simp only [gmS])
              (refine skK 39 ?_; try simp only [gmS])
              (refine skK 40 ?_; try simp only [gmS])
              (refine tkK 41 ?_; try simp only [gmS])
              (refine tkW 42 ?_; try simp only [gmS])
              (refine tkW 43 ?_; try simp only [gmS])
              have hok : ok = true := by rw [OB.out, BD.out]; rfl
              have ne := OI.out hok
              cases k with
              | zero =>
                have z0 := LT0.out rfl
                have g0 : decide ((0 : Int) < ((0 : Nat) : Int)) = false := by simp
                (refine tkK 44 ?_; try simp only [gmS])
                (refine tkK 45 ?_; try simp only [gmS])
                (refine tkK 46 ?_; try simp only [gmS])
                (refine skK 47 ?_; try simp only [gmS])
                (refine skK 48 ?_; try simp only [gmS])
                (refine skK 49 ?_; try simp only [gmS])
                (refine skK 50 ?_; try simp only [gmS])
                (refine skK 51 ?_; try simp only [gmS])
                (refine skK 52 ?_; try simp only [gmS])
                (refine skK 53 ?_; try simp only [gmS])
                (refine skK 54 ?_; try simp only [gmS])
                (refine skK 55 ?_; try simp only [gmS])
                (refine tkK 56 ?_; try simp only [gmS])
                (refine tkW 57 ?_; try simp only [gmS])
                have O2 := Lib.hid hHeld
                (refine wpAnyH_done (by kernel_rfl) ?_ _; refine NoPanic.normal ?_)
                clear hHeld e0 e1 e2 e3 e4 e5 e6 e7 e8 e9 e10 e11 e12 e13 e14 SO SN SM CC
                have RG := Lib.hid (TG.out (by rw [z0, At.nil_lt ne, hok]; rfl))
                clear TB TG
                go_wp2_with fail
                exact ⟨⟨0 + 1, by omega, by go_num, Lib.hid (by rw [HL2.out]; exact RG.out), Lib.hid (BB.out _ O2.out)⟩, by simp [intOf]; omega⟩
              | succ j =>
                have fp := fun u hu => CC.out u hu _ _ rfl (LTS.out j rfl)
                have w1 : IntKind.i64.wrap (j : Int) = (j : Int) := IntWalk.i64_in _ (by omega)
                have g0 : decide ((0 : Int) < ((j + 1 : Nat) : Int)) = true := by simp
                have g1 : decide ((0 : Int) < (j : Int) + 1) = true := by first | (simp; done) | (simp; omega)
                have d3 : (j : Int) < (n : Int) := by omega
                have d4 : (0 : Int) ≤ (j : Int) := by omega
                rcases lt_facts last d.id with ⟨y1, y2, y3⟩ | ⟨y1, y2, y3⟩ | ⟨y1, y2, y3⟩
                · have y4 : Op.bytesLess d.id last = true := y1
                  (refine tkK 44 ?_; try simp only [gmS])
                  (refine tkK 45 ?_; try simp only [gmS])
                  (refine tkK 46 ?_; try simp only [gmS])
                  (refine tkK 47 ?_; try simp only [gmS])
                  (refine tkK 48 ?_; try simp only [gmS])
                  (refine tkK 49 ?_; try simp only [gmS])
                  (refine tkK 50 ?_; try simp only [gmS])
                  (refine tkK 51 ?_; try simp only [gmS])
                  (refine tkK 52 ?_; try simp only [gmS])
                  (refine tkK 53 ?_; try simp only [gmS])
                  (refine tkK 54 ?_; try simp only [gmS])
                  (refine tkK 55 ?_; try simp only [gmS])
                  (refine tkK 56 ?_; try simp only [gmS])
                  (refine tkW 57 ?_; try simp only [gmS])
                  clear fp
                  have O2 := Lib.hid hHeld
                  (refine wpAnyH_done (by kernel_rfl) ?_ _; refine NoPanic.normal ?_)
                  clear hHeld e0 e1 e2 e3 e4 e5 e6 e7 e8 e9 e10 e11 e12 e13 e14 SO SN SM CC
                  have RF := Lib.hid (TB.out (by rw [show At.lt last d.id = false from y2]; rfl))
                  clear TB TG
                  go_wp2_with fail
                  go_ret
                  exact ⟨by rw [RF.out]; rfl, BB.out _ O2.out⟩
                · have y4 : Op.bytesLess d.id last = false := y1
                  (refine tkK 44 ?_; try simp only [gmS])
                  (refine tkK 45 ?_; try simp only [gmS])
                  (refine tkK 46 ?_; try simp only [gmS])
                  (refine tkK 47 ?_; try simp only [gmS])
                  (refine tkK 48 ?_; try simp only [gmS])
                  (refine tkK 49 ?_; try simp only [gmS])
                  (refine tkK 50 ?_; try simp only [gmS])
                  (refine tkK 51 ?_; try simp only [gmS])
                  (refine tkK 52 ?_; try simp only [gmS])
                  (refine tkK 53 ?_; try simp only [gmS])
                  (refine tkK 54 ?_; try simp only [gmS])
                  (refine tkK 55 ?_; try simp only [gmS])
                  (refine tkK 56 ?_; try simp only [gmS])
                  (refine tkW 57 ?_; try simp only [gmS])
                  clear fp
                  have O2 := Lib.hid hHeld
                  (refine wpAnyH_done (by kernel_rfl) ?_ _; refine NoPanic.normal ?_)
                  clear hHeld e0 e1 e2 e3 e4 e5 e6 e7 e8 e9 e10 e11 e12 e13 e14 SO SN SM CC
                  have RG := Lib.hid (TG.out (by rw [show At.lt last d.id = true from y2, hok]; rfl))
                  clear TB TG
                  go_wp2_with fail
                  exact ⟨⟨j + 1 + 1, by omega, by go_num, Lib.hid (by rw [HL2.out]; exact RG.out), Lib.hid (BB.out _ O2.out)⟩, by simp [intOf]; omega⟩
                · have y4 : Op.bytesLess d.id last = false := y1
                  (refine tkK 44 ?_; try simp only [gmS])
                  (refine tkK 45 ?_; try simp only [gmS])
                  (refine tkK 46 ?_; try simp only [gmS])
                  (refine tkK 47 ?_; try simp only [gmS])
                  (refine tkK 48 ?_; try simp only [gmS])
                  (refine tkK 49 ?_; try simp only [gmS])
                  (refine tkK 50 ?_; try simp only [gmS])
                  (refine tkK 51 ?_; try simp only [gmS])
                  (refine tkK 52 ?_; try simp only [gmS])
                  (refine tkK 53 ?_; try simp only [gmS])
                  (refine tkK 54 ?_; try simp only [gmS])
                  (refine tkK 55 ?_; try simp only [gmS])
                  (refine tkK 56 ?_; try simp only [gmS])
                  (refine tkW 57 ?_; try simp only [gmS])
                  clear fp
                  have O2 := Lib.hid hHeld
                  (refine wpAnyH_done (by kernel_rfl) ?_ _; refine NoPanic.normal ?_)
                  clear hHeld e0 e1 e2 e3 e4 e5 e6 e7 e8 e9 e10 e11 e12 e13 e14 SO SN SM CC
                  have RF := Lib.hid (TB.out (by rw [show At.lt last d.id = false from y2]; rfl))
                  clear TB TG
                  go_wp2_with fail
                  go_ret
                  exact ⟨by rw [RF.out]; rfl, BB.out _ O2.out⟩
      | true =>
        cases ia with
        | false =>
          (refine wp_region_noPanic ?_; refine wp_region_held_drew (S := (OldB U)) (by kernel_rfl) ?_ (fun hHeld => ?_); exact Below.drew (Below.refl _ _))
          (refine tkW 0 ?_; try simp only [gmS])
          (refine tkW 1 ?_; try simp only [gmS])
          (refine tkW 2 ?_; try simp only [gmS])
          (refine tkW 3 ?_; try simp only [gmS])
          (refine skK 4 ?_; try simp only [gmS])
          (refine skK 5 ?_; try simp only [gmS])
          (refine skK 6 ?_; try simp only [gmS])
          (refine tkW 7 ?_; try simp only [gmS])
          (refine tkW 8 ?_; try simp only [gmS])
          (refine tkK 9 ?_; try simp only [gmS])
          (refine tkK 10 ?_; try simp only [gmS])
          (refine tkK 11 ?_; try simp only [gmS])
          (refine tkK 12 ?_; try simp only [gmS])
          (refine tkK 13 ?_; try simp only [gmS])
          (refine tkK 14 ?_; try simp only [gmS])
          (refine rdW 15 (fun K hK => ?_); go_simp)
          refine (SO.out _ (BB.out _ hHeld)).mono ?_
          rintro e u1 ⟨rfl, b1⟩
          (refine hK.out _ _ (OldB.then hHeld b1) (fun hHeld2 => ?_); clear hK K hHeld; have hHeld := hHeld2; clear hHeld2; try simp only [gmS])
          cases p1 with
          | false =>
            (refine tkK 16 ?_; try simp only [gmS])
            (refine tkW 17 ?_; try simp only [gmS])
            (refine tkW 18 ?_; try simp only [gmS])
            (refine skK 19 ?_; try simp only [gmS])
            (refine skK 20 ?_; try simp only [gmS])
            (refine skK 21 ?_; try simp only [gmS])
            (refine skK 22 ?_; try simp only [gmS])
            (refine skK 23 ?_; try simp only [gmS])
            (refine skK 24 ?_; try simp only [gmS])
            (refine skK 25 ?_; try simp only [gmS])
            (refine skK 26 ?_; try simp only [gmS])
            (refine tkW 27 ?_; try simp only [gmS])
            (refine tkW 28 ?_; try simp only [gmS])
            (refine skK 29 ?_; try simp only [gmS])
            (refine skK 30 ?_; try simp only [gmS])
            (refine skK 31 ?_; try simp only [gmS])
            (refine skK 32 ?_; try simp only [gmS])
            (refine skK 33 ?_; try simp only [gmS])
            (refine skK 34 ?_; try simp only [gmS])
            (refine skK 35 ?_; try simp only [gmS])
            (refine skK 36 ?_; try simp only [gmS])
            (refine skK 37 ?_; try simp only [gmS])
            (refine skK 38 ?_; try simp only [gmS])
            (refine skK 39 ?_; try simp only [gmS])
            (refine skK 40 ?_; try simp only [gmS])
            (refine skK 41 ?_; try simp only [gmS])
            (refine tkW 42 ?_; try simp only [gmS])
            (refine tkW 43 ?_; try simp only [gmS])
            (refine skK 44 ?_; try simp only [gmS])
            (refine skK 45 ?_; try simp only [gmS])
            (refine skK 46 ?_; try simp only [gmS])
            (refine skK 47 ?_; try simp only [gmS])
            (refine skK 48 ?_; try simp only [gmS])
            (refine skK 49 ?_; try simp only [gmS])
            (refine skK 50 ?_; try simp only [gmS])
            (refine skK 51 ?_; try simp only [gmS])
            (refine skK 52 ?_; try simp only [gmS])
            (refine skK 53 ?_; try simp only [gmS])
            (refine skK 54 ?_; try simp only [gmS])
            (refine skK 55 ?_; try simp only [gmS])
            (refine skK 56 ?_; try simp only [gmS])
            (refine tkW 57 ?_; try simp only [gmS])
            have O2 := Lib.hid hHeld
            (refine wpAnyH_done (by kernel_rfl) ?_ _; refine NoPanic.normal ?_)
            clear hHeld e0 e1 e2 e3 e4 e5 e6 e7 e8 e9 e10 e11 e12 e13 e14 SO SN SM CC
            have RF := Lib.hid (TB.out (by rw [OB.out, BD.out]; simp))
            clear TB TG
            go_wp2_with fail
            go_ret
            exact ⟨by rw [RF.out]; rfl, BB.out _ O2.out⟩
          | true =>
            (refine tkK 16 ?_; try simp only [gmS])
            (refine tkW 17 ?_; try simp only [gmS])
            (refine tkW 18 ?_; try simp only [gmS])
            (refine tkK 19 ?_; try simp only [gmS])
            (refine tkK 20 ?_; try simp only [gmS])
            (refine tkK 21 ?_; try simp only [gmS])
            (refine tkK 22 ?_; try simp only [gmS])
            (refine tkK 23 ?_; try simp only [gmS])
            (refine tkK 24 ?_; try simp only [gmS])
            (refine rdW 25 (fun K hK => ?_); go_simp)
            refine (SN.out _ (BB.out _ hHeld)).mono ?_
            rintro e u2 ⟨rfl, b2⟩
            (refine hK.out _ _ (OldB.then hHeld b2) (fun hHeld2 => ?_); clear hK K hHeld; have hHeld := hHeld2; clear hHeld2; try simp only [gmS])
            cases p2 with
            | false =>
              (refine tkK 26 ?_; try simp only [gmS])
              (refine tkW 27 ?_; try simp only [gmS])
              (refine tkW 28 ?_; try simp only [gmS])
              (refine skK 29 ?_; try simp only [gmS])
              (refine skK 30 ?_; try simp only [gmS])
              (refine skK 31 ?_; try simp only [gmS])
              (refine skK 32 ?_; try simp only [gmS])
              (refine skK 33 ?_; try simp only [gmS])
              (refine skK 34 ?_; try simp only [gmS])
              (refine skK 35 ?_; try simp only [gmS])
              (refine skK 36 ?_; try simp only [gmS])
              (refine skK 37 ?_; try simp only [gmS])
              (refine skK 38 ?_; try simp only [gmS])
              (refine skK 39 ?_; try simp only [gmS])
              (refine skK 40 ?_; try simp only [gmS])
              (refine skK 41 ?_; try simp only [gmS])
              (refine tkW 42 ?_; try simp only [gmS])
              (refine tkW 43 ?_; try simp only [gmS])
              (refine skK 44 ?_; try simp only [gmS])
              (refine skK 45 ?_; try simp only [gmS])
              (refine skK 46 ?_; try simp only [gmS])
              (refine skK 47 ?_; try simp only [gmS])
              (refine skK 48 ?_; try simp only [gmS])
              (refine skK 49 ?_; try simp only [gmS])
              (refine skK 50 ?_; try simp only [gmS])
              (refine skK 51 ?_; try simp only [gmS])
              (refine skK 52 ?_; try simp only [gmS])
              (refine skK 53 ?_; try simp only [gmS])
              (refine skK 54 ?_; try simp only [gmS])
              (refine skK 55 ?_; try simp only [gmS])
              (refine skK 56 ?_; try simp only [gmS])
              (refine tkW 57 ?_; try simp only [gmS])
              have O2 := Lib.hid hHeld
              (refine wpAnyH_done (by kernel_rfl) ?_ _; refine NoPanic.normal ?_)
              clear hHeld e0 e1 e2 e3 e4 e5 e6 e7 e8 e9 e10 e11 e12 e13 e14 SO SN SM CC
              have RF := Lib.hid (TB.out (by rw [OB.out, BD.out]; simp))
              clear TB TG
              go_wp2_with fail
              go_ret
              exact ⟨by rw [RF.out]; rfl, BB.out _ O2.out⟩
            | true =>
              (refine tkK 26 ?_; try simp only [gmS])
              (refine tkW 27 ?_; try simp only [gmS])
              (refine tkW 28 ?_; try simp only [gmS])
              (refine tkK 29 ?_; try simp only [gmS])
              (refine tkK 30 ?_; try simp only [gmS])
              (refine tkK 31 ?_; try simp only [gmS])
              (refine tkK 32 ?_; try simp only [gmS])
              (refine tkK 33 ?_; try simp only [gmS])
              (refine tkK 34 ?_; try simp only [gmS])
              (refine tkK 35 ?_; try simp only [gmS])
              (refine skK 36 ?_; try simp only [gmS])
              (refine skK 37 ?_; try simp only [gmS])
              (refine skK 38 ?_; try simp only [gmS])
              (refine skK 39 ?_; try simp only [gmS])
              (refine skK 40 ?_; try simp only [gmS])
              (refine tkK 41 ?_; try simp only [gmS])
              (refine tkW 42 ?_; try simp only [gmS])
              (refine tkW 43 ?_; try simp only [gmS])
              have hok : ok = true := by rw [OB.out, BD.out]; rfl
              have ne := OI.out hok
              cases k with
              | zero =>
                have z0 := LT0.out rfl
                have g0 : decide ((0 : Int) < ((0 : Nat) : Int)) = false := by simp
                (refine tkK 44 ?_; try simp only [gmS])
                (refine tkK 45 ?_; try simp only [gmS])
                (refine tkK 46 ?_; try simp only [gmS])
                (refine skK 47 ?_; try simp only [gmS])
                (refine skK 48 ?_; try simp only [gmS])
                (refine skK 49 ?_; try simp only [gmS])
                (refine skK 50 ?_; try simp only [gmS])
                (refine skK 51 ?_; try simp only [gmS])
                (refine skK 52 ?_; try simp only [gmS])
                (refine skK 53 ?_; try simp only [gmS])
                (refine skK 54 ?_; try simp only [gmS])
                (refine skK 55 ?_; try simp only [gmS])
                (refine tkK 56 ?_; try simp only [gmS])
                (refine tkW 57 ?_; try simp only [gmS])
                have O2 := Lib.hid hHeld
                (refine wpAnyH_done (by kernel_rfl) ?_ _; refine NoPanic.normal ?_)
                clear hHeld e0 e1 e2 e3 e4 e5 e6 e7 e8 e9 e10 e11 e12 e13 e14 SO SN SM CC
                have RG := Lib.hid (TG.out (by rw [z0, At.nil_lt ne, hok]; rfl))
                clear TB TG
                go_wp2_with fail
                exact ⟨⟨0 + 1, by omega, by go_num, Lib.hid (by rw [HL2.out]; exact RG.out), Lib.hid (BB.out _ O2.out)⟩, by simp [intOf]; omega⟩
              | succ j =>
                have fp := fun u hu => CC.out u hu _ _ rfl (LTS.out j rfl)
                have w1 : IntKind.i64.wrap (j : Int) = (j : Int) := IntWalk.i64_in _ (by omega)
                have g0 : decide ((0 : Int) < ((j + 1 : Nat) : Int)) = true := by simp
                have g1 : decide ((0 : Int) < (j : Int) + 1) = true := by first | (simp; done) | (simp; omega)
                have d3 : (j : Int) < (n : Int) := by omega
                have d4 : (0 : Int) ≤ (j : Int) := by omega
                rcases lt_facts last d.id with ⟨y1, y2, y3⟩ | ⟨y1, y2, y3⟩ | ⟨y1, y2, y3⟩
                · have y4 : Op.bytesLess d.id last = true := y1
                  (refine tkK 44 ?_; try simp only [gmS])
                  (refine tkK 45 ?_; try simp only [gmS])
                  (refine tkK 46 ?_; try simp only [gmS])
                  (refine tkK 47 ?_; try simp only [gmS])
                  (refine tkK 48 ?_; try simp only [gmS])
                  (refine tkK 49 ?_; try simp only [gmS])
                  (refine tkK 50 ?_; try simp only [gmS])
                  (refine tkK 51 ?_; try simp only [gmS])
                  (refine tkK 52 ?_; try simp only [gmS])
                  (refine tkK 53 ?_; try simp only [gmS])
                  (refine tkK 54 ?_; try simp only [gmS])
                  (refine tkK 55 ?_; try simp only [gmS])
                  (refine tkK 56 ?_; try simp only [gmS])
                  (refine tkW 57 ?_; try simp only [gmS])
                  clear fp
                  have O2 := Lib.hid hHeld
                  (refine wpAnyH_done (by kernel_rfl) ?_ _; refine NoPanic.normal ?_)
                  clear hHeld e0 e1 e2 e3 e4 e5 e6 e7 e8 e9 e10 e11 e12 e13 e14 SO SN SM CC
                  have RF := Lib.hid (TB.out (by rw [show At.lt last d.id = false from y2]; rfl))
                  clear TB TG
                  go_wp2_with fail
                  go_ret
                  exact ⟨by rw [RF.out]; rfl, BB.out _ O2.out⟩
                · have y4 : Op.bytesLess d.id last = false := y1
                  (refine tkK 44 ?_; try simp only [gmS])
                  (refine tkK 45 ?_; try simp only [gmS])
                  (refine tkK 46 ?_; try simp only [gmS])
                  (refine tkK 47 ?_; try simp only [gmS])
                  (refine tkK 48 ?_; try simp only [gmS])
                  (refine tkK 49 ?_; try simp only [gmS])
                  (refine tkK 50 ?_; try simp only [gmS])
                  (refine tkK 51 ?_; try simp only [gmS])
                  (refine tkK 52 ?_; try simp only [gmS])
                  (refine tkK 53 ?_; try simp only [gmS])
                  (refine tkK 54 ?_; try simp only [gmS])
                  (refine tkK 55 ?_; try simp only [gmS])
                  (refine tkK 56 ?_; try simp only [gmS])
                  (refine tkW 57 ?_; try simp only [gmS])
                  clear fp
                  have O2 := Lib.hid hHeld
                  (refine wpAnyH_done (by kernel_rfl) ?_ _; refine NoPanic.normal ?_)
                  clear hHeld e0 e1 e2 e3 e4 e5 e6 e7 e8 e9 e10 e11 e12 e13 e14 SO SN SM CC
                  have RG := Lib.hid (TG.out (by rw [show At.lt last d.id = true from y2, hok]; rfl))
                  clear TB TG
                  go_wp2_with fail
                  exact ⟨⟨j + 1 + 1, by omega, by go_num, Lib.hid (by rw [HL2.out]; exact RG.out), Lib.hid (BB.out _ O2.out)⟩, by simp [intOf]; omega⟩
                · have y4 : Op.bytesLess d.id last = false := y1
                  (refine tkK 44 ?_; try simp only [gmS])
                  (refine tkK 45 ?_; try simp only [gmS])
                  (refine tkK 46 ?_; try simp only [gmS])
                  (refine tkK 47 ?_; try simp only [gmS])
                  (refine tkK 48 ?_; try simp only [gmS])
                  (refine tkK 49 ?_; try simp only [gmS])
                  (refine tkK 50 ?_; try simp only [gmS])
                  (refine tkK 51 ?_; try simp only [gmS])
                  (refine tkK 52 ?_; try simp only [gmS])
                  (refine tkK 53 ?_; try simp only [gmS])
                  (refine tkK 54 ?_; try simp only [gmS])
                  (refine tkK 55 ?_; try simp only [gmS])
                  (refine tkK 56 ?_; try simp only [gmS])
                  (refine tkW 57 ?_; try simp only [gmS])
                  clear fp
                  have O2 := Lib.hid hHeld
                  (refine wpAnyH_done (by kernel_rfl) ?_ _; refine NoPanic.normal ?_)
                  clear hHeld e0 e1 e2 e3 e4 e5 e6 e7 e8 e9 e10 e11 e12 e13 e14 SO SN SM CC
                  have RF := Lib.hid (TB.out (by rw [show At.lt last d.id = false from y2]; rfl))
                  clear TB TG
                  go_wp2_with fail
                  go_ret
                  exact ⟨by rw [RF.out]; rfl, BB.out _ O2.out⟩
        | true =>
          (refine wp_region_noPanic ?_; refine wp_region_held_drew (S := (OldB U)) (by kernel_rfl) ?_ (fun hHeld => ?_); exact Below.drew (Below.refl _ _))
          (refine tkW 0 ?_; try simp only [gmS])
          (refine tkW 1 ?_; try simp only [gmS])
          (refine tkW 2 ?_; try simp only [gmS])
          (refine tkW 3 ?_; try simp only [gmS])
          (refine skK 4 ?_; try simp only [gmS])
          (refine skK 5 ?_; try simp only [gmS])
          (refine skK 6 ?_; try simp only [gmS])
          (refine tkW 7 ?_; try simp only [gmS])
          (refine tkW 8 ?_; try simp only [gmS])
          (refine tkK 9 ?_; try simp only [gmS])
          (refine tkK 10 ?_; try simp only [gmS])
          (refine tkK 11 ?_; try simp only [gmS])
          (refine tkK 12 ?_; try simp only [gmS])
          (refine tkK 13 ?_; try simp only [gmS])
          (refine tkK 14 ?_; try simp only [gmS])
          (refine rdW 15 (fun K hK => ?_); go_simp)
          refine (SO.out _ (BB.out _ hHeld)).mono ?_
          rintro e u1 ⟨rfl, b1⟩
          (refine hK.out _ _ (OldB.then hHeld b1) (fun hHeld2 => ?_); clear hK K hHeld; have hHeld := hHeld2; clear hHeld2; try simp only [gmS])
          cases p1 with
          | false =>
            (refine tkK 16 ?_; try simp only [gmS])
            (refine tkW 17 ?_; try simp only [gmS])
            (refine tkW 18 ?_; try simp only [gmS])
            (refine skK 19 ?_; try simp only [gmS])
            (refine skK 20 ?_; try simp only [gmS])
            (refine skK 21 ?_; try simp only [gmS])
            (refine skK 22 ?_; try simp only [gmS])
            (refine skK 23 ?_; try simp only [gmS])
            (refine skK 24 ?_; try simp only [gmS])
            (refine skK 25 ?_; try simp only [gmS])
            (refine skK 26 ?_; try simp only [gmS])
            (refine tkW 27 ?_; try simp only [gmS])
            (refine tkW 28 ?_; try simp only [gmS])
            (refine skK 29 ?_; try simp only [gmS])
            (refine skK 30 ?_; try simp only [gmS])
            (refine skK 31 ?_; try simp only [gmS])
            (refine skK 32 ?_; try simp only [gmS])
            (refine skK 33 ?_; try simp only [gmS])
            (refine skK 34 ?_; try simp only [gmS])
            (refine skK 35 ?_; try simp only [gmS])
            (refine skK 36 ?_; try simp only [gmS])
            (refine skK 37 ?_; try simp only [gmS])
            (refine skK 38 ?_; try simp only [gmS])
            (refine skK 39 ?_; try simp only [gmS])
            (refine skK 40 ?_; try simp only [gmS])
            (refine skK 41 ?_; try simp only [gmS])
            (refine tkW 42 ?_; try simp only [gmS])
            (refine tkW 43 ?_; try simp only [gmS])
            (refine skK 44 ?_; try simp only [gmS])
            (refine skK 45 ?_; try simp only [gmS])
            (refine skK 46 ?_; try simp only [gmS])
            (refine skK 47 ?_; try simp only [gmS])
            (refine skK 48 ?_; try simp only [gmS])
            (refine skK 49 ?_; try simp only [gmS])
            (refine skK 50 ?_; try simp only [gmS])
            (refine skK 51 ?_; try simp only [gmS])
            (refine skK 52 ?_; try simp only [gmS])
            (refine skK 53 ?_; try simp only [gmS])
            (refine skK 54 ?_; try simp only [gmS])
            (refine skK 55 ?_; try simp only [gmS])
            (refine skK 56 ?_; try simp only [gmS])
            (refine tkW 57 ?_; try simp only [gmS])
            have O2 := Lib.hid hHeld
            (refine wpAnyH_done (by kernel_rfl) ?_ _; refine NoPanic.normal ?_)
            clear hHeld e0 e1 e2 e3 e4 e5 e6 e7 e8 e9 e10 e11 e12 e13 e14 SO SN SM CC
            have RF := Lib.hid (TB.out (by rw [OB.out, BD.out]; simp))
            clear TB TG
            go_wp2_with fail
            go_ret
            exact ⟨by rw [RF.out]; rfl, BB.out _ O2.out⟩
          | true =>
            (refine tkK 16 ?_; try simp only [gmS])
            (refine tkW 17 ?_; try simp only [gmS])
            (refine tkW 18 ?_; try simp only [gmS])
            (refine tkK 19 ?_; try simp only [gmS])
            (refine tkK 20 ?_; try simp only [gmS])
            (refine tkK 21 ?_; try simp only [gmS])
            (refine tkK 22 ?_; try simp only [gmS])
            (refine tkK 23 ?_; try simp only [gmS])
            (refine tkK 24 ?_; try simp only [gmS])
            (refine rdW 25 (fun K hK => ?_); go_simp)
            refine (SN.out _ (BB.out _ hHeld)).mono ?_
            rintro e u2 ⟨rfl, b2⟩
            (refine hK.out _ _ (OldB.then hHeld b2) (fun hHeld2 => ?_); clear hK K hHeld; have hHeld := hHeld2; clear hHeld2; try simp only [gmS])
            cases p2 with
            | false =>
              (refine tkK 26 ?_; try simp only [gmS])
              (refine tkW 27 ?_; try simp only [gmS])
              (refine tkW 28 ?_; try simp only [gmS])
              (refine skK 29 ?_; try simp only [gmS])
              (refine skK 30 ?_; try simp only [gmS])
              (refine skK 31 ?_; try simp only [gmS])
              (refine skK 32 ?_; try simp only [gmS])
              (refine skK 33 ?_; try simp only [gmS])
              (refine skK 34 ?_; try simp only [gmS])
              (refine skK 35 ?_; try simp only [gmS])
              (refine skK 36 ?_; try simp only [gmS])
              (refine skK 37 ?_; try simp only [gmS])
              (refine skK 38 ?_; try simp only [gmS])
              (refine skK 39 ?_; try simp only [gmS])
              (refine skK 40 ?_; try simp only [gmS])
              (refine skK 41 ?_; try simp only [gmS])
              (refine tkW 42 ?_; try simp only [gmS])
              (refine tkW 43 ?_; try simp only [gmS])
              (refine skK 44 ?_; try simp only [gmS])
              (refine skK 45 ?_; try simp only [gmS])
              (refine skK 46 ?_; try simp only [gmS])
              (refine skK 47 ?_; try simp only [gmS])
              (refine skK 48 ?_; try simp only [gmS])
              (refine skK 49 ?_; try simp only [gmS])
              (refine skK 50 ?_; try simp only [gmS])
              (refine skK 51 ?_; try simp only [gmS])
              (refine skK 52 ?_; try simp only [gmS])
              (refine skK 53 ?_; try simp only [gmS])
              (refine skK 54 ?_; try simp only [gmS])
              (refine skK 55 ?_; try simp only [gmS])
              (refine skK 56 ?_; try simp only [gmS])
              (refine tkW 57 ?_; try simp only [gmS])
              have O2 := Lib.hid hHeld
              (refine wpAnyH_done (by kernel_rfl) ?_ _; refine NoPanic.normal ?_)
              clear hHeld e0 e1 e2 e3 e4 e5 e6 e7 e8 e9 e10 e11 e12 e13 e14 SO SN SM CC
              have RF := Lib.hid (TB.out (by rw [OB.out, BD.out]; simp))
              clear TB TG
              go_wp2_with fail
              go_ret
              exact ⟨by rw [RF.out]; rfl, BB.out _ O2.out⟩
            | true =>
              (refine tkK 26 ?_; try simp only [gmS])
              (refine tkW 27 ?_; try simp only [gmS])
              (refine tkW 28 ?_; try simp only [gmS])
              (refine tkK 29 ?_; try simp only [gmS])
              (refine tkK 30 ?_; try simp only [gmS])
              (refine tkK 31 ?_; try simp only [gmS])
              (refine tkK 32 ?_; try simp only [gmS])
              (refine tkK 33 ?_; try simp only [gmS])
              (refine tkK 34 ?_; try simp only [gmS])
              (refine tkK 35 ?_; try simp only [gmS])
              (refine tkK 36 ?_; try simp only [gmS])
              (refine tkK 37 ?_; try simp only [gmS])
              (refine tkK 38 ?_; try simp only [gmS])
              (refine tkK 39 ?_; try simp only [gmS])
              (refine rdW 40 (fun K hK => ?_); go_simp)
              refine (SM.out _ (BB.out _ hHeld)).mono ?_
              rintro e u3 ⟨rfl, b3⟩
              (refine hK.out _ _ (OldB.then hHeld b3) (fun hHeld2 => ?_); clear hK K hHeld; have hHeld := hHeld2; clear hHeld2; try simp only [gmS])
              cases sm with
              | true =>
                (refine tkK 41 ?_; try simp only [gmS])
                (refine tkW 42 ?_; try simp only [gmS])
                (refine tkW 43 ?_; try simp only [gmS])
                (refine skK 44 ?_; try simp only [gmS])
                (refine skK 45 ?_; try simp only [gmS])
                (refine skK 46 ?_; try simp only [gmS])
                (refine skK 47 ?_; try simp only [gmS])
                (refine skK 48 ?_; try simp only [gmS])
                (refine skK 49 ?_; try simp only [gmS])
                (refine skK 50 ?_; try simp only [gmS])
                (refine skK 51 ?_; try simp only [gmS])
                (refine skK 52 ?_; try simp only [gmS])
                (refine skK 53 ?_; try simp only [gmS])
                (refine skK 54 ?_; try simp only [gmS])
                (refine skK 55 ?_; try simp only [gmS])
                (refine skK 56 ?_; try simp only [gmS])
                (refine tkW 57 ?_; try simp only [gmS])
                have O2 := Lib.hid hHeld
                (refine wpAnyH_done (by kernel_rfl) ?_ _; refine NoPanic.normal ?_)
                clear hHeld e0 e1 e2 e3 e4 e5 e6 e7 e8 e9 e10 e11 e12 e13 e14 SO SN SM CC
                have RF := Lib.hid (TB.out (by rw [OB.out, BD.out]; simp))
                clear TB TG
                go_wp2_with fail
                go_ret
                exact ⟨by rw [RF.out]; rfl, BB.out _ O2.out⟩
              | false =>
                (refine tkK 41 ?_; try simp only [gmS])
                (refine tkW 42 ?_; try simp only [gmS])
                (refine tkW 43 ?_; try simp only [gmS])
                have hok : ok = true := by rw [OB.out, BD.out]; rfl
                have ne := OI.out hok
                cases k with
                | zero =>
                  have z0 := LT0.out rfl
                  have g0 : decide ((0 : Int) < ((0 : Nat) : Int)) = false := by simp
                  (refine tkK 44 ?_; try simp only [gmS])
                  (refine tkK 45 ?_; try simp only [gmS])
                  (refine tkK 46 ?_; try simp only [gmS])
                  (refine skK 47 ?_; try simp only [gmS])
                  (refine skK 48 ?_; try simp only [gmS])
                  (refine skK 49 ?_; try simp only [gmS])
                  (refine skK 50 ?_; try simp only [gmS])
                  (refine skK 51 ?_; try simp only [gmS])
                  (refine skK 52 ?_; try simp only [gmS])
                  (refine skK 53 ?_; try simp only [gmS])
                  (refine skK 54 ?_; try simp only [gmS])
                  (refine skK 55 ?_; try simp only [gmS])
                  (refine tkK 56 ?_; try simp only [gmS])
                  (refine tkW 57 ?_; try simp only [gmS])
                  have O2 := Lib.hid hHeld
                  (refine wpAnyH_done (by kernel_rfl) ?_ _; refine NoPanic.normal ?_)
                  clear hHeld e0 e1 e2 e3 e4 e5 e6 e7 e8 e9 e10 e11 e12 e13 e14 SO SN SM CC
                  have RG := Lib.hid (TG.out (by rw [z0, At.nil_lt ne, hok]; rfl))
                  clear TB TG
                  go_wp2_with fail
                  exact ⟨⟨0 + 1, by omega, by go_num, Lib.hid (by rw [HL2.out]; exact RG.out), Lib.hid (BB.out _ O2.out)⟩, by simp [intOf]; omega⟩
                | succ j =>
                  have fp := fun u hu => CC.out u hu _ _ rfl (LTS.out j rfl)
                  have w1 : IntKind.i64.wrap (j : Int) = (j : Int) := IntWalk.i64_in _ (by omega)
                  have g0 : decide ((0 : Int) < ((j + 1 : Nat) : Int)) = true := by simp
                  have g1 : decide ((0 : Int) < (j : Int) + 1) = true := by first | (simp; done) | (simp; omega)
                  have d3 : (j : Int) < (n : Int) := by omega
                  have d4 : (0 : Int) ≤ (j : Int) := by omega
                  rcases lt_facts last d.id with ⟨y1, y2, y3⟩ | ⟨y1, y2, y3⟩ | ⟨y1, y2, y3⟩
                  · have y4 : Op.bytesLess d.id last = true := y1
                    (refine tkK 44 ?_; try simp only [gmS])
                    (refine tkK 45 ?_; try simp only [gmS])
                    (refine tkK 46 ?_; try simp only [gmS])
                    (refine tkK 47 ?_; try simp only [gmS])
                    (refine tkK 48 ?_; try simp only [gmS])
                    (refine tkK 49 ?_; try simp only [gmS])
                    (refine tkK 50 ?_; try simp only [gmS])
                    (refine tkK 51 ?_; try simp only [gmS])
                    (refine tkK 52 ?_; try simp only [gmS])
                    (refine tkK 53 ?_; try simp only [gmS])
                    (refine tkK 54 ?_; try simp only [gmS])
                    (refine tkK 55 ?_; try simp only [gmS])
                    (refine tkK 56 ?_; try simp only [gmS])
                    (refine tkW 57 ?_; try simp only [gmS])
                    clear fp
                    have O2 := Lib.hid hHeld
                    (refine wpAnyH_done (by kernel_rfl) ?_ _; refine NoPanic.normal ?_)
                    clear hHeld e0 e1 e2 e3 e4 e5 e6 e7 e8 e9 e10 e11 e12 e13 e14 SO SN SM CC
                    have RF := Lib.hid (TB.out (by rw [show At.lt last d.id = false from y2]; rfl))
                    clear TB TG
                    go_wp2_with fail
                    go_ret
                    exact ⟨by rw [RF.out]; rfl, BB.out _ O2.out⟩
                  · have y4 : Op.bytesLess d.id last = false := y1
                    (refine tkK 44 ?_; try simp only [gmS])
                    (refine tkK 45 ?_; try simp only [gmS])
                    (refine tkK 46 ?_; try simp only [gmS])
                    (refine tkK 47 ?_; try simp only [gmS])
                    (refine tkK 48 ?_; try simp only [gmS])
                    (refine tkK 49 ?_; try simp only [gmS])
                    (refine tkK 50 ?_; try simp only [gmS])
                    (refine tkK 51 ?_; try simp only [gmS])
                    (refine tkK 52 ?_; try simp only [gmS])
                    (refine tkK 53 ?_; try simp only [gmS])
                    (refine tkK 54 ?_; try simp only [gmS])
                    (refine tkK 55 ?_; try simp only [gmS])
                    (refine tkK 56 ?_; try simp only [gmS])
                    (refine tkW 57 ?_; try simp only [gmS])
                    clear fp
                    have O2 := Lib.hid hHeld
                    (refine wpAnyH_done (by kernel_rfl) ?_ _; refine NoPanic.normal ?_)
                    clear hHeld e0 e1 e2 e3 e4 e5 e6 e7 e8 e9 e10 e11 e12 e13 e14 SO SN SM CC
                    have RG := Lib.hid (TG.out (by rw [show At.lt last d.id = true from y2, hok]; rfl))
                    clear TB TG
                    go_wp2_with fail
                    exact ⟨⟨j + 1 + 1, by omega, by go_num, Lib.hid (by rw [HL2.out]; exact RG.out), Lib.hid (BB.out _ O2.out)⟩, by simp [intOf]; omega⟩
                  · have y4 : Op.bytesLess d.id last = false := y1
                    (refine tkK 44 ?_; try simp only [gmS])
                    (refine tkK 45 ?_; try simp only [gmS])
                    (refine tkK 46 ?_; try simp only [gmS])
                    (refine tkK 47 ?_; try simp only [gmS])
                    (refine tkK 48 ?_; try simp only [gmS])
                    (refine tkK 49 ?_; try simp only [gmS])
                    (refine tkK 50 ?_; try simp only [gmS])
                    (refine tkK 51 ?_; try simp only [gmS])
                    (refine tkK 52 ?_; try simp only [gmS])
                    (refine tkK 53 ?_; try simp only [gmS])
                    (refine tkK 54 ?_; try simp only [gmS])
                    (refine tkK 55 ?_; try simp only [gmS])
                    (refine tkK 56 ?_; try simp only [gmS])
                    (refine tkW 57 ?_; try simp only [gmS])
                    clear fp
                    have O2 := Lib.hid hHeld
                    (refine wpAnyH_done (by kernel_rfl) ?_ _; refine NoPanic.normal ?_)
                    clear hHeld e0 e1 e2 e3 e4 e5 e6 e7 e8 e9 e10 e11 e12 e13 e14 SO SN SM CC
                    have RF := Lib.hid (TB.out (by rw [show At.lt last d.id = false from y2]; rfl))
                    clear TB TG
                    go_wp2_with fail
                    go_ret
                    exact ⟨by rw [RF.out]; rfl, BB.out _ O2.out⟩
    · obtain rfl : k = n := by omega
      have dk : decide ((k : Int) < (k : Int)) = false := by simp
      have RT : Hid (R = true) := Lib.hid (by rw [HR.out, List.drop_of_length_le (by rw [← HN.out]; exact Nat.le_refl _)]; rfl)
      clear hlt HR
      go_wp2_with fail
      go_ret
      exact ⟨by rw [RT.out]; rfl, BL.out⟩
end Go.Proofs.YtlejeelmlclnkaaGreatDoor
