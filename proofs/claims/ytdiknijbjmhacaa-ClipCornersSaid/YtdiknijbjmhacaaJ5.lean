/- WALKS: ClipWhole. -/
import Derived.Test.YtdiknijbjmhacaaL1
import Derived.Deep.RegionHeld3
import Derived.Deep.DrawnRows
import Derived.Test.YtdiknijbjmhacaaJ1
set_option linter.unusedSimpArgs false
set_option linter.unusedVariables false
namespace Go.Proofs.Ytdiknijbjmhacaa
open Go.RowKit
attribute [local go_sem ↓] Go.wp_at_zero Go.wp_at_succ

def allP (P : Cl.Pt → Bool) (l : List Cl.Pt) (k : Nat) : Bool := (l.take k).all P
theorem allP_succ {P : Cl.Pt → Bool} {l : List Cl.Pt} {k : Nat} (h : k < l.length) : allP P l (k + 1) = (allP P l k && P l[k]) := by
  unfold allP; rw [List.take_succ_eq_append_getElem h, List.all_append]; simp
theorem allP_full {P : Cl.Pt → Bool} {l : List Cl.Pt} {k : Nat} (h : l.length ≤ k) : allP P l k = l.all P := by
  unfold allP; rw [List.take_of_length_le h]
def oL (b : Cl.Bx) (p : Cl.Pt) : Bool := decide (p.1 < b.x0)
def oR (b : Cl.Bx) (p : Cl.Pt) : Bool := decide (b.x1 < p.1)
def oB (b : Cl.Bx) (p : Cl.Pt) : Bool := decide (p.2 < b.y0)
def oA (b : Cl.Bx) (p : Cl.Pt) : Bool := decide (b.y1 < p.2)
theorem whole_out {l : List Cl.Pt} {b : Cl.Bx} (hb : Cl.boxB b = true) (hl : allNear l = true) (h : (l.all (oL b) || l.all (oR b) || l.all (oB b) || l.all (oA b)) = true) : clipL l b = [] ∧ clipR l b = [] := by
  have hp : Cl.properB l b = true := by unfold Cl.properB; rw [hb]; exact hl
  obtain ⟨_, _, hx, hy⟩ := Cl.box_iff.1 hb
  have key : ∃ k, ∀ p ∈ l, Cl.out4 p b k := by
    simp only [Bool.or_eq_true, List.all_eq_true, oL, oR, oB, oA, decide_eq_true_eq] at h
    rcases h with ((h | h) | h) | h
    · exact ⟨0, h⟩
    · exact ⟨1, h⟩
    · exact ⟨2, h⟩
    · exact ⟨3, h⟩
  obtain ⟨k, hk⟩ := key
  unfold clipL clipR
  rw [hp]
  exact ⟨Cl.lineF_beyond hk, Cl.ringF_beyond hx hy hk⟩
theorem whole_in {l : List Cl.Pt} {b : Cl.Bx} (hb : Cl.boxB b = true) (hl : allNear l = true) (h : l.all (fun p => Cl.inB p b) = true) : clipL l b = Cl.fin l ∧ clipR l b = Cl.aroundF l := by
  have hp : Cl.properB l b = true := by unfold Cl.properB; rw [hb]; exact hl
  rw [List.all_eq_true] at h
  unfold clipL clipR
  rw [hp]
  exact ⟨Cl.lineF_inside h, Cl.ringF_inside h⟩
theorem near_mvOk {l : List Cl.Pt} {m : Cl.Pt} (h : mvOk l m = true) : allNear l = true := by
  unfold mvOk mvPre at h; simp only [Bool.and_eq_true] at h; exact h.1.1

theorem stripLen : ∀ (n : Nat) (l : List Cl.Pt), (Cl.strip n l).length ≤ l.length := fun n l => (Cl.strip_pre n l).length_le
theorem aroundLen (l : List Cl.Pt) : (Cl.aroundF l).length ≤ l.length := by
  unfold Cl.aroundF
  simp only
  split
  · simp
  · exact Nat.le_trans (stripLen _ _) (cmp_len l)
set_option maxRecDepth 10000 in
set_option maxHeartbeats 16000000 in
theorem whole_any (A : Option Addr) (n c : Nat) (l : List Cl.Pt) (x0 y0 x1 y1 : Int) (w : World) (hn : n = l.length) (hl : n ≤ 8796093022208) (h : Rp w A l) (hw : Wf l) (hb : Wf [(x0, y0), (x1, y1)]) :
    Calls Try.prog 5 #[.slice A n c, .agg #[.int .i64 x0, .int .i64 y0, .int .i64 x1, .int .i64 y1]] w fun e w' => e = .returned (.bool true) ∧ Below w.heap.size w w' := by
  have BB : Hid (Below w.heap.size w (w.alloc (.cells #[.int .i64 x0, .int .i64 y0, .int .i64 x1, .int .i64 y1] 26))) := Lib.hid ((Below.refl _ _).alloc (Nat.le_refl _) _)
  have BX : Hid (BoxAt (w.alloc (.cells #[.int .i64 x0, .int .i64 y0, .int .i64 x1, .int .i64 y1] 26)) w.heap.size ⟨x0, y0, x1, y1⟩) := Lib.hid (heap_alloc_new w _)
  have MV : Hid (∀ u, Rp u A l → Calls Try.prog 18 #[.slice A n c, .agg #[.int .i64 0, .int .i64 0]] u (MovedPost u l (0, 0))) := Lib.hid (fun u hu => moved_any A n c l 0 0 u hn hl hu)
  have PR : Hid (∀ u, Calls Try.prog 19 #[.agg #[.int .i64 x0, .int .i64 y0, .int .i64 x1, .int .i64 y1]] u fun e w' => e = .returned (.bool (Cl.boxB ⟨x0, y0, x1, y1⟩)) ∧ Below u.heap.size u w') := Lib.hid (fun u => rproper_any x0 y0 x1 y1 u)
  have H := Lib.hid h; have HN := Lib.hid hn; have HW := Lib.hid hw; have HB := Lib.hid hb
  clear h hn hw hb
  go_enter Try.func5, Try.ntmps5
  go_wp2_with fail
  refine (head_any _).mono ?_
  rintro e w1 ⟨rfl, hb1⟩
  have B1 := Lib.hid (BB.out.trans (hb1.mono BB.out.size)); have X1 := Lib.hid (BX.out.below hb1 BX.out.lt); clear hb1 BB BX
  go_wp2_with fail
  refine (MV.out _ (H.out.below B1.out)).mono ?_
  rintro e w2 ⟨A2, c2, rfl, -, -, hb2⟩
  have B2 := Lib.hid (B1.out.trans (hb2.mono B1.out.size)); have X2 := Lib.hid (X1.out.below hb2 X1.out.lt); clear hb2 B1 X1 MV
  obtain ⟨q0, q1, q2, q3⟩ := X2.out.c
  simp only at q0 q1 q2 q3
  generalize hok : mvOk l (0, 0) = ok
  have HOK := Lib.hid hok; clear hok
  by_cases hbig : 200 < n
  · have hd : decide ((200 : Int) < (n : Int)) = true := by simp; omega
    clear hbig
    go_wp2_with fail
    go_ret
    exact ⟨rfl, B2.out⟩
  · have hd : decide ((200 : Int) < (n : Int)) = false := by simp; omega
    generalize hbo : Cl.boxB ⟨x0, y0, x1, y1⟩ = bo at PR
    have HBO := Lib.hid hbo; clear hbo
    go_wp2_with fail
    refine (PR.out _).mono ?_
    rintro e w3 ⟨rfl, hb3⟩
    have B3 := Lib.hid (B2.out.trans (hb3.mono B2.out.size)); have X3 := Lib.hid (X2.out.below hb3 X2.out.lt); clear hb3 B2 X2 PR q0 q1 q2 q3
    rcases bo with _ | _
    · go_wp2_with fail
      go_ret
      exact ⟨rfl, B3.out⟩
    · rcases ok with _ | _
      · go_wp2_with fail
        go_ret
        exact ⟨rfl, B3.out⟩
      · have HAN := Lib.hid (near_mvOk HOK.out)
        clear HOK
        go_wp2_with fail
        go_loopw [8, 9, 10, 11, 12, 13] (fun s8 s9 s10 s11 s12 i wr => ∃ k : Nat, k ≤ n ∧ i = .int .i64 k ∧ s8 = .bool (allP (fun p => Cl.inB p ⟨x0, y0, x1, y1⟩) l k) ∧ s9 = .bool (allP (oL ⟨x0, y0, x1, y1⟩) l k) ∧ s10 = .bool (allP (oR ⟨x0, y0, x1, y1⟩) l k) ∧ s11 = .bool (allP (oB ⟨x0, y0, x1, y1⟩) l k) ∧ s12 = .bool (allP (oA ⟨x0, y0, x1, y1⟩) l k) ∧ Hid (Below w3.heap.size w3 wr)) (fun _ _ _ _ _ i _ => n - (intOf i).toNat)
        case atStart => exact ⟨0, Nat.zero_le _, rfl, rfl, rfl, rfl, rfl, rfl, Lib.hid (Below.refl _ _)⟩
        case round =>
          obtain ⟨k, hk, rfl, rfl, rfl, rfl, rfl, rfl, hbel⟩ := hrel
          by_cases hlt : k < n
          · have hkl : k < l.length := by have := HN.out; omega
            have N8 := Lib.hid (allP_succ (P := fun p => Cl.inB p ⟨x0, y0, x1, y1⟩) hkl)
            have N9 := Lib.hid (allP_succ (P := oL ⟨x0, y0, x1, y1⟩) hkl)
            have N10 := Lib.hid (allP_succ (P := oR ⟨x0, y0, x1, y1⟩) hkl)
            have N11 := Lib.hid (allP_succ (P := oB ⟨x0, y0, x1, y1⟩) hkl)
            have N12 := Lib.hid (allP_succ (P := oA ⟨x0, y0, x1, y1⟩) hkl)
            generalize allP (fun p => Cl.inB p ⟨x0, y0, x1, y1⟩) l k = f8 at *
            generalize allP (oL ⟨x0, y0, x1, y1⟩) l k = f9 at *
            generalize allP (oR ⟨x0, y0, x1, y1⟩) l k = f10 at *
            generalize allP (oB ⟨x0, y0, x1, y1⟩) l k = f11 at *
            generalize allP (oA ⟨x0, y0, x1, y1⟩) l k = f12 at *
            obtain ⟨b, off, rfl, hb, c0, c1⟩ := (H.out.below (B3.out.trans (hbel.out.mono B3.out.size))).at_ hkl
            obtain ⟨x, hx⟩ : ∃ x, x = l[k].1 := ⟨_, rfl⟩
            obtain ⟨y, hy⟩ : ∃ y, y = l[k].2 := ⟨_, rfl⟩
            rw [← hx] at c0; rw [← hy] at c1
            have EQ : l[k] = (x, y) := by rw [hx, hy]
            rw [EQ] at N8 N9 N10 N11 N12
            clear hx hy EQ
            generalize hi8 : Cl.inB (x, y) ⟨x0, y0, x1, y1⟩ = i8 at N8
            have IN : Hid (∀ u, Calls Try.prog 20 #[.agg #[.int .i64 x, .int .i64 y], .agg #[.int .i64 x0, .int .i64 y0, .int .i64 x1, .int .i64 y1]] u fun e w' => e = .returned (.bool i8) ∧ Below u.heap.size u w') := Lib.hid (fun u => by rw [← hi8]; exact rin_pt x y x0 y0 x1 y1 u)
            clear hi8
            have XR := Lib.hid (X3.out.below hbel.out X3.out.lt)
            have CC := Lib.hid (And.intro c0 c1)
            clear c0 c1
            have i5 : (k : Int) < (n : Int) := by omega
            have i6 : (0 : Int) ≤ (k : Int) := by omega
            have hzb := hb
            go_upto_region 9 with fail
            go_cut [8] (fun s8 wx => s8 = .bool (f8 && i8) ∧ Hid (Below wr.heap.size wr wx))
            case first =>
              rcases f8 with _ | _
              · (refine wp_region_noPanic ?_; refine wp_region_held_drew (S := (fun w' => OldOf wr.drew w')) (by kernel_rfl) ?_ (fun hHeld => ?_); exact (OldOf.refl _))
                (refine wpAnyH_take (i := 0) (oi := _) (v := ?_) rfl (by kernel_rfl) (by kernel_rfl) (by kernel_rfl) (fun _ _ _ h => h) (Or.inl ⟨?_, ?_⟩) (by assumption) ?_; rotate_left; (focus (first | rfl | (simp [Region.wanted, yielded]; done))); (focus (intro w hSw; (try dsimp only at hSw); go_simp; all_goals (with_reducible rfl))); try simp only [Act.put, List.getElem_toArray, List.getElem_cons_zero, List.getElem_cons_succ, List.setIfInBounds_toArray, List.set_cons_zero, List.set_cons_succ])
                (refine wpAnyH_take (i := 1) (oi := _) (v := .bool false) rfl (by kernel_rfl) (by kernel_rfl) (by kernel_rfl) (fun _ _ _ h => h) (Or.inl ⟨?_, ?_⟩) (by assumption) ?_; (focus (simp [Region.wanted, yielded]; done)); (focus (intro w hSw; (try dsimp only at hSw); go_simp; all_goals (with_reducible rfl))); try simp only [Act.put, List.getElem_toArray, List.getElem_cons_zero, List.getElem_cons_succ, List.setIfInBounds_toArray, List.set_cons_zero, List.set_cons_succ])
                (refine wpAnyH_take (i := 2) (oi := _) (v := undef) rfl (by kernel_rfl) (by kernel_rfl) (by kernel_rfl) (fun _ _ _ h => h) (Or.inr ⟨?_, rfl⟩) (by assumption) ?_; (focus (simp [Region.wanted, yielded]; done)); try simp only [Act.put, List.getElem_toArray, List.getElem_cons_zero, List.getElem_cons_succ, List.setIfInBounds_toArray, List.set_cons_zero, List.set_cons_succ])
                (refine wpAnyH_take (i := 3) (oi := _) (v := undef) rfl (by kernel_rfl) (by kernel_rfl) (by kernel_rfl) (fun _ _ _ h => h) (Or.inr ⟨?_, rfl⟩) (by assumption) ?_; (focus (simp [Region.wanted, yielded]; done)); try simp only [Act.put, List.getElem_toArray, List.getElem_cons_zero, List.getElem_cons_succ, List.setIfInBounds_toArray, List.set_cons_zero, List.set_cons_succ])
                (refine wpAnyH_take (i := 4) (oi := _) (v := undef) rfl (by kernel_rfl) (by kernel_rfl) (by kernel_rfl) (fun _ _ _ h => h) (Or.inr ⟨?_, rfl⟩) (by assumption) ?_; (focus (simp [Region.wanted, yielded]; done)); try simp only [Act.put, List.getElem_toArray, List.getElem_cons_zero, List.getElem_cons_succ, List.setIfInBounds_toArray, List.set_cons_zero, List.set_cons_succ])
                (refine wpAnyH_take (i := 5) (oi := _) (v := undef) rfl (by kernel_rfl) (by kernel_rfl) (by kernel_rfl) (fun _ _ _ h => h) (Or.inr ⟨?_, rfl⟩) (by assumption) ?_; (focus (simp [Region.wanted, yielded]; done)); try simp only [Act.put, List.getElem_toArray, List.getElem_cons_zero, List.getElem_cons_succ, List.setIfInBounds_toArray, List.set_cons_zero, List.set_cons_succ])
                (refine wpAnyH_take (i := 6) (oi := _) (v := undef) rfl (by kernel_rfl) (by kernel_rfl) (by kernel_rfl) (fun _ _ _ h => h) (Or.inr ⟨?_, rfl⟩) (by assumption) ?_; (focus (simp [Region.wanted, yielded]; done)); try simp only [Act.put, List.getElem_toArray, List.getElem_cons_zero, List.getElem_cons_succ, List.setIfInBounds_toArray, List.set_cons_zero, List.set_cons_succ])
                (refine wpAnyH_take (i := 7) (oi := _) (v := undef) rfl (by kernel_rfl) (by kernel_rfl) (by kernel_rfl) (fun _ _ _ h => h) (Or.inr ⟨?_, rfl⟩) (by assumption) ?_; (focus (simp [Region.wanted, yielded]; done)); try simp only [Act.put, List.getElem_toArray, List.getElem_cons_zero, List.getElem_cons_succ, List.setIfInBounds_toArray, List.set_cons_zero, List.set_cons_succ])
                (refine wpAnyH_take (i := 8) (oi := _) (v := .bool false) rfl (by kernel_rfl) (by kernel_rfl) (by kernel_rfl) (fun _ _ _ h => h) (Or.inl ⟨?_, ?_⟩) (by assumption) ?_; (focus (simp [Region.wanted, yielded]; done)); (focus (intro w hSw; (try dsimp only at hSw); go_simp; all_goals (with_reducible rfl))); try simp only [Act.put, List.getElem_toArray, List.getElem_cons_zero, List.getElem_cons_succ, List.setIfInBounds_toArray, List.set_cons_zero, List.set_cons_succ])
                (refine wpAnyH_take (i := 9) (oi := _) (v := ?_) rfl (by kernel_rfl) (by kernel_rfl) (by kernel_rfl) (fun _ _ _ h => h) (Or.inl ⟨?_, ?_⟩) (by assumption) ?_; rotate_left; (focus (first | rfl | (simp [Region.wanted, yielded]; done))); (focus (intro w hSw; (try dsimp only at hSw); go_simp; all_goals (with_reducible rfl))); try simp only [Act.put, List.getElem_toArray, List.getElem_cons_zero, List.getElem_cons_succ, List.setIfInBounds_toArray, List.set_cons_zero, List.set_cons_succ])
                (refine wpAnyH_done (by kernel_rfl) ?_ _; refine NoPanic.normal ?_)
                clear hHeld
                go_wp2_with fail
                go_meet
                exact ⟨rfl, Lib.hid ((Below.refl _ _).drew)⟩
              · obtain ⟨q0, q1, q2, q3⟩ := XR.out.c
                obtain ⟨c0, c1⟩ := CC.out
                have C0 : ∀ w', OldOf wr.drew w' → w'.cell? ⟨b, off + k * 2, none⟩ = some (.int .i64 x) := fun w' h => h.c (by exact c0)
                have C1 : ∀ w', OldOf wr.drew w' → w'.cell? ⟨b, off + k * 2 + 1, none⟩ = some (.int .i64 y) := fun w' h => h.c (by exact c1)
                have Q0 : ∀ w', OldOf wr.drew w' → w'.cell? ⟨w.heap.size, 0, none⟩ = some (.int .i64 x0) := fun w' h => h.c (by exact q0)
                have Q1 : ∀ w', OldOf wr.drew w' → w'.cell? ⟨w.heap.size, 1, none⟩ = some (.int .i64 y0) := fun w' h => h.c (by exact q1)
                have Q2 : ∀ w', OldOf wr.drew w' → w'.cell? ⟨w.heap.size, 2, none⟩ = some (.int .i64 x1) := fun w' h => h.c (by exact q2)
                have Q3 : ∀ w', OldOf wr.drew w' → w'.cell? ⟨w.heap.size, 3, none⟩ = some (.int .i64 y1) := fun w' h => h.c (by exact q3)
                have o0 : OldOf wr.drew wr.drew := OldOf.refl _
                clear c0 c1 q0 q1 q2 q3
                go_region_held3 (fun w' => OldOf wr.drew w') (first | assumption | exact o2) (((with_reducible refine (IN.out _).mono ?_); rintro e w5 ⟨rfl, hb5⟩; have o2 := OldOf.below (by assumption) hb5))
                all_goals (go_wp2_with fail; go_meet; exact ⟨by simp, Lib.hid o2.undrew⟩)
            case rest =>
              obtain ⟨rfl, hb4⟩ := hcut
              obtain ⟨w4, hw4⟩ : ∃ w4, w4 = wc := ⟨_, rfl⟩; rw [← hw4] at hb4 ⊢; clear hw4 wc
              have D4 := Lib.hid (hbel.out.trans (hb4.out.mono hbel.out.size))
              have hlb : b < w4.heap.size := Nat.lt_of_lt_of_le hb hb4.out.size
              obtain ⟨c0, c1⟩ : w4.cell? ⟨b, off + k * 2, none⟩ = some (.int .i64 x) ∧ w4.cell? ⟨b, off + k * 2 + 1, none⟩ = some (.int .i64 y) := ⟨(hb4.out.cell (by exact hb)).trans CC.out.1, (hb4.out.cell (by exact hb)).trans CC.out.2⟩
              obtain ⟨q0, q1, q2, q3⟩ := (X3.out.below D4.out X3.out.lt).c
              simp only at q0 q1 q2 q3
              clear hb4 CC XR IN hbel hb hzb
              go_upto_region 10 with fail
              go_cut [9] (fun s wx => s = .bool (f9 && oL ⟨x0, y0, x1, y1⟩ (x, y)) ∧ Hid (Dr w4 wx))
              case first =>
                rcases f9 with _ | _ <;> (go_wp2_with fail; go_quiet (fail); go_wp2_with fail; go_meet; exact ⟨by simp [oL], Lib.hid (by first | exact dr1 | exact dr2 | exact drd | exact dr0)⟩)
              case rest =>
                obtain ⟨rfl, hm0⟩ := hcut
                obtain ⟨m0, rfl⟩ := hm0.out
                clear hm0
                go_upto_region 11 with fail
                go_cut [10] (fun s wx => s = .bool (f10 && oR ⟨x0, y0, x1, y1⟩ (x, y)) ∧ Hid (Dr w4 wx))
                case first =>
                  rcases f10 with _ | _ <;> (go_wp2_with fail; go_quiet (fail); go_wp2_with fail; go_meet; exact ⟨by simp [oR], Lib.hid (by first | exact dr1 | exact dr2 | exact drd | exact dr0)⟩)
                case rest =>
                  obtain ⟨rfl, hm1⟩ := hcut
                  obtain ⟨m1, rfl⟩ := hm1.out
                  clear hm1
                  go_upto_region 12 with fail
                  go_cut [11] (fun s wx => s = .bool (f11 && oB ⟨x0, y0, x1, y1⟩ (x, y)) ∧ Hid (Dr w4 wx))
                  case first =>
                    rcases f11 with _ | _ <;> (go_wp2_with fail; go_quiet (fail); go_wp2_with fail; go_meet; exact ⟨by simp [oB], Lib.hid (by first | exact dr1 | exact dr2 | exact drd | exact dr0)⟩)
                  case rest =>
                    obtain ⟨rfl, hm2⟩ := hcut
                    obtain ⟨m2, rfl⟩ := hm2.out
                    clear hm2
                    rcases f12 with _ | _ <;> (go_wp2_with fail; go_quiet (fail); go_wp2_with fail; exact ⟨⟨k + 1, hlt, by go_num, by rw [N8.out], by rw [N9.out], by rw [N10.out], by rw [N11.out], by rw [N12.out]; first | done | (simp [oA]; done), Lib.hid (below_drewN D4.out _)⟩, by simp [intOf]; omega⟩)
          · have e8 : allP (fun p => Cl.inB p ⟨x0, y0, x1, y1⟩) l k = l.all (fun p => Cl.inB p ⟨x0, y0, x1, y1⟩) := allP_full (by have := HN.out; omega)
            have e9 : allP (oL ⟨x0, y0, x1, y1⟩) l k = l.all (oL ⟨x0, y0, x1, y1⟩) := allP_full (by have := HN.out; omega)
            have e10 : allP (oR ⟨x0, y0, x1, y1⟩) l k = l.all (oR ⟨x0, y0, x1, y1⟩) := allP_full (by have := HN.out; omega)
            have e11 : allP (oB ⟨x0, y0, x1, y1⟩) l k = l.all (oB ⟨x0, y0, x1, y1⟩) := allP_full (by have := HN.out; omega)
            have e12 : allP (oA ⟨x0, y0, x1, y1⟩) l k = l.all (oA ⟨x0, y0, x1, y1⟩) := allP_full (by have := HN.out; omega)
            rw [e8, e9, e10, e11, e12]
            clear e8 e9 e10 e11 e12
            have OUT := Lib.hid (whole_out (l := l) (b := ⟨x0, y0, x1, y1⟩) HBO.out HAN.out); have INN := Lib.hid (whole_in (l := l) (b := ⟨x0, y0, x1, y1⟩) HBO.out HAN.out)
            have LIN : Hid (∀ u, Rp u A l → Calls Try.prog 12 #[.slice A n c, .agg #[.int .i64 x0, .int .i64 y0, .int .i64 x1, .int .i64 y1]] u (PzPost u (clipL l ⟨x0, y0, x1, y1⟩))) := Lib.hid (fun u hu => line_p A n c l x0 y0 x1 y1 u _ HN.out (by omega) hu HW.out HB.out rfl)
            have RIN : Hid (∀ u, Rp u A l → Calls Try.prog 15 #[.slice A n c, .agg #[.int .i64 x0, .int .i64 y0, .int .i64 x1, .int .i64 y1]] u (PtsPost u (clipR l ⟨x0, y0, x1, y1⟩))) := Lib.hid (fun u hu => ring_p A n c l x0 y0 x1 y1 u _ HN.out (by omega) hu HW.out HB.out rfl)
            generalize l.all (fun p => Cl.inB p ⟨x0, y0, x1, y1⟩) = f8 at *
            generalize l.all (oL ⟨x0, y0, x1, y1⟩) = f9 at *
            generalize l.all (oR ⟨x0, y0, x1, y1⟩) = f10 at *
            generalize l.all (oB ⟨x0, y0, x1, y1⟩) = f11 at *
            generalize l.all (oA ⟨x0, y0, x1, y1⟩) = f12 at *
            have D4 := Lib.hid (B3.out.trans (hbel.out.mono B3.out.size)); have X4 := Lib.hid (X3.out.below hbel.out X3.out.lt)
            clear hbel B3 X3
            rcases ho : (f9 || f10 || f11 || f12) with _ | _
            · rcases f8 with _ | _
              · simp only [Bool.or_eq_false_iff] at ho
                obtain ⟨⟨⟨rfl, rfl⟩, rfl⟩, rfl⟩ := ho
                clear OUT INN
                generalize clipL l ⟨x0, y0, x1, y1⟩ = ps at *
                generalize clipR l ⟨x0, y0, x1, y1⟩ = rr at *
                obtain ⟨q0, q1, q2, q3⟩ := X4.out.c
                simp only at q0 q1 q2 q3
                go_wp2_with fail
                refine (LIN.out _ (H.out.below D4.out)).mono ?_
                rintro e w5 ⟨A5, c5, rfl, -, -, hb5⟩
                have D5 := Lib.hid (D4.out.trans (hb5.mono D4.out.size)); have X5 := Lib.hid (X4.out.below hb5 X4.out.lt); clear hb5 D4 X4 LIN q0 q1 q2 q3
                obtain ⟨q0, q1, q2, q3⟩ := X5.out.c
                simp only at q0 q1 q2 q3
                go_wp2_with fail
                refine (RIN.out _ (H.out.below D5.out)).mono ?_
                rintro e w6 ⟨A6, c6, rfl, -, -, hb6⟩
                have D6 := Lib.hid (D5.out.trans (hb6.mono D5.out.size)); clear hb6
                go_wp2_with fail
                go_ret
                exact ⟨rfl, D6.out⟩
              · simp only [Bool.or_eq_false_iff] at ho
                obtain ⟨⟨⟨rfl, rfl⟩, rfl⟩, rfl⟩ := ho
                obtain ⟨g1, g2⟩ := INN.out rfl
                rw [g1] at LIN; rw [g2] at RIN
                clear g1 g2 OUT INN
                have DF : Hid (∀ u, Rp u A l → Calls Try.prog 21 #[.slice A n c] u (PtsPost u (Cl.cmpF l))) := Lib.hid (fun u hu => rdiff_p A n c l u HN.out (by omega) hu)
                have AR : Hid (∀ u, Rp u A l → Calls Try.prog 22 #[.slice A n c] u (PtsPost u (Cl.aroundF l))) := Lib.hid (fun u hu => around_any A n c l u HN.out (by omega) hu)
                have CL : (Cl.cmpF l).length ≤ 200 := by have := cmp_len l; have := HN.out; omega
                have RL : (Cl.aroundF l).length ≤ 200 := by have := aroundLen l; have := HN.out; omega
                generalize Cl.aroundF l = rr at *
                obtain ⟨q0, q1, q2, q3⟩ := X4.out.c
                simp only at q0 q1 q2 q3
                by_cases hf : (Cl.cmpF l).length < 2
                · have ef : Cl.fin l = [] := by unfold Cl.fin; rw [if_neg (by omega)]
                  rw [ef] at LIN
                  clear ef
                  generalize Cl.cmpF l = dl at *
                  have d2 : decide (dl.length < 2) = true := by simpa using hf
                  have d3 : decide ((dl.length : Int) < 2) = true := by simp; omega
                  have d4 : decide ((2 : Int) ≤ (dl.length : Int)) = false := by simp; omega
                  clear hf
                  go_wp2_with fail
                  refine (LIN.out _ (H.out.below D4.out)).mono ?_
                  rintro e w5 ⟨A5, c5, rfl, -, -, hb5⟩
                  have D5 := Lib.hid (D4.out.trans (hb5.mono D4.out.size)); have X5 := Lib.hid (X4.out.below hb5 X4.out.lt); clear hb5 D4 X4 LIN q0 q1 q2 q3
                  obtain ⟨q0, q1, q2, q3⟩ := X5.out.c
                  simp only at q0 q1 q2 q3
                  go_wp2_with fail
                  refine (RIN.out _ (H.out.below D5.out)).mono ?_
                  rintro e w6 ⟨A6, c6, rfl, rp6, -, hb6⟩
                  have D6 := Lib.hid (D5.out.trans (hb6.mono D5.out.size)); have RP6 := Lib.hid rp6; clear rp6 RIN q0 q1 q2 q3 X5
                  clear hb6 D5
                  go_wp2_with fail
                  refine (DF.out _ (H.out.below D6.out)).mono ?_
                  rintro e w7 ⟨A7, c7, rfl, rp7, -, hb7⟩
                  have D7 := Lib.hid (D6.out.trans (hb7.mono D6.out.size)); have RP7 := Lib.hid (rp_below RP6.out hb7); have RD7 := Lib.hid rp7; clear rp7 RP6 DF D6
                  clear hb7
                  go_wp2_with fail
                  refine (AR.out _ (H.out.below D7.out)).mono ?_
                  rintro e w9 ⟨A10, c10, rfl, rp10, -, hb9⟩
                  have D9 := Lib.hid (D7.out.trans (hb9.mono D7.out.size)); have SR : Hid (Calls Try.prog 14 #[.slice A6 rr.length c6, .slice A10 rr.length c10] w9 fun e w' => e = .returned (.bool true) ∧ Below w9.heap.size w9 w') := Lib.hid (same_q A6 A10 rr.length c6 c10 rr w9 rfl (by omega) (rp_below RP7.out hb9) rp10)
                  clear hb9 rp10
                  go_wp2_with fail
                  refine SR.out.mono ?_
                  rintro e w10 ⟨rfl, hb10⟩
                  have D10 := Lib.hid (D9.out.trans (hb10.mono D9.out.size)); clear hb10
                  go_wp2_with fail
                  go_ret
                  exact ⟨rfl, D10.out⟩
                · have ef : Cl.fin l = [Cl.cmpF l] := by unfold Cl.fin; rw [if_pos (by omega)]
                  rw [ef] at LIN
                  clear ef
                  generalize Cl.cmpF l = dl at *
                  have d2 : decide (dl.length < 2) = false := by simpa using hf
                  have d3 : decide ((dl.length : Int) < 2) = false := by simp; omega
                  have d4 : decide ((2 : Int) ≤ (dl.length : Int)) = true := by simp; omega
                  clear hf
                  go_wp2_with fail
                  refine (LIN.out _ (H.out.below D4.out)).mono ?_
                  rintro e w5 ⟨A5, c5, rfl, pz5, hc5, hb5⟩
                  have D5 := Lib.hid (D4.out.trans (hb5.mono D4.out.size)); have X5 := Lib.hid (X4.out.below hb5 X4.out.lt); clear hb5 D4 X4 LIN q0 q1 q2 q3
                  have PZ5 := Lib.hid pz5; clear pz5 hc5
                  obtain ⟨q0, q1, q2, q3⟩ := X5.out.c
                  simp only at q0 q1 q2 q3
                  go_wp2_with fail
                  refine (RIN.out _ (H.out.below D5.out)).mono ?_
                  rintro e w6 ⟨A6, c6, rfl, rp6, -, hb6⟩
                  have D6 := Lib.hid (D5.out.trans (hb6.mono D5.out.size)); have RP6 := Lib.hid rp6; clear rp6 RIN q0 q1 q2 q3 X5
                  have PZ6 := Lib.hid (pz_below PZ5.out hb6); clear PZ5
                  clear hb6 D5
                  go_wp2_with fail
                  refine (DF.out _ (H.out.below D6.out)).mono ?_
                  rintro e w7 ⟨A7, c7, rfl, rp7, -, hb7⟩
                  have D7 := Lib.hid (D6.out.trans (hb7.mono D6.out.size)); have RP7 := Lib.hid (rp_below RP6.out hb7); have RD7 := Lib.hid rp7; clear rp7 RP6 DF D6
                  obtain ⟨b9, off9, A9, c9, rfl, -, k9, r9, -, -⟩ := (pz_below PZ6.out hb7).at_ (k := 0) (by simp)
                  simp only [List.getElem_cons_zero, Nat.add_zero] at k9 r9
                  have SL : Hid (Calls Try.prog 14 #[.slice A9 dl.length c9, .slice A7 dl.length c7] w7 fun e w' => e = .returned (.bool true) ∧ Below w7.heap.size w7 w') := Lib.hid (same_q A9 A7 dl.length c9 c7 dl w7 rfl (by omega) r9 RD7.out)
                  clear r9 PZ6
                  clear hb7
                  go_wp2_with fail
                  refine SL.out.mono ?_
                  rintro e w8 ⟨rfl, hb8⟩
                  have D8 := Lib.hid (D7.out.trans (hb8.mono D7.out.size)); have RP8 := Lib.hid (rp_below RP7.out hb8); clear hb8 D7 RP7 SL k9
                  go_wp2_with fail
                  refine (AR.out _ (H.out.below D8.out)).mono ?_
                  rintro e w9 ⟨A10, c10, rfl, rp10, -, hb9⟩
                  have D9 := Lib.hid (D8.out.trans (hb9.mono D8.out.size)); have SR : Hid (Calls Try.prog 14 #[.slice A6 rr.length c6, .slice A10 rr.length c10] w9 fun e w' => e = .returned (.bool true) ∧ Below w9.heap.size w9 w') := Lib.hid (same_q A6 A10 rr.length c6 c10 rr w9 rfl (by omega) (rp_below RP8.out hb9) rp10)
                  clear hb9 rp10
                  go_wp2_with fail
                  refine SR.out.mono ?_
                  rintro e w10 ⟨rfl, hb10⟩
                  have D10 := Lib.hid (D9.out.trans (hb10.mono D9.out.size)); clear hb10
                  go_wp2_with fail
                  go_ret
                  exact ⟨rfl, D10.out⟩
            · obtain ⟨g1, g2⟩ := OUT.out ho
              rw [g1] at LIN; rw [g2] at RIN
              clear g1 g2 OUT INN
              obtain ⟨q0, q1, q2, q3⟩ := X4.out.c
              simp only at q0 q1 q2 q3
              have HO := Lib.hid ho; clear ho
              go_wp2_with fail
              refine (LIN.out _ (H.out.below D4.out)).mono ?_
              rintro e w5 ⟨A5, c5, rfl, -, -, hb5⟩
              have D5 := Lib.hid (D4.out.trans (hb5.mono D4.out.size)); have X5 := Lib.hid (X4.out.below hb5 X4.out.lt); clear hb5 D4 X4 LIN q0 q1 q2 q3
              obtain ⟨q0, q1, q2, q3⟩ := X5.out.c
              simp only at q0 q1 q2 q3
              go_wp2_with fail
              refine (RIN.out _ (H.out.below D5.out)).mono ?_
              rintro e w6 ⟨A6, c6, rfl, -, -, hb6⟩
              have D6 := Lib.hid (D5.out.trans (hb6.mono D5.out.size)); clear hb6 D5 X5 RIN q0 q1 q2 q3
              go_upto_region 16 with fail
              go_cut [115] (fun s wx => s = .bool true ∧ wx = w6)
              case first =>
                rcases f9 with _ | _ <;> rcases f10 with _ | _ <;> rcases f11 with _ | _ <;> rcases f12 with _ | _ <;> (first | (exfalso; exact Bool.noConfusion HO.out) | (go_wp2_with fail; go_meet; exact ⟨rfl, rfl⟩))
              case rest =>
                obtain ⟨rfl, rfl⟩ := hcut
                go_wp2_with fail
                go_ret
                exact ⟨rfl, D6.out⟩
theorem walk_ClipWhole (A : Option Addr) (n c : Nat) (l : List Cl.Pt) (x0 y0 x1 y1 : Int) (w : World) (hn : n = l.length) (h1 : n ≤ c) (h2 : c ≤ 8796093022208) (h : Rp w A l) (hw : Wf l) (hb : Wf [(x0, y0), (x1, y1)]) :
    Calls Try.prog 5 #[.slice A n c, .agg #[.int .i64 x0, .int .i64 y0, .int .i64 x1, .int .i64 y1]] w fun e w' => e = .returned (.bool true) ∧ Below w.heap.size w w' := whole_any A n c l x0 y0 x1 y1 w hn (by omega) h hw hb
end Go.Proofs.Ytdiknijbjmhacaa
