/- WALKS: ClipCorners. -/
import Derived.Test.YtdiknijbjmhacaaJ6p
set_option linter.unusedSimpArgs false
set_option linter.unusedVariables false
namespace Go.Proofs.Ytdiknijbjmhacaa
open Go.RowKit
attribute [local go_sem ↓] Go.wp_at_zero Go.wp_at_succ

set_option maxRecDepth 10000 in
set_option maxHeartbeats 32000000 in
theorem corners_any (A : Option Addr) (n c : Nat) (l : List Cl.Pt) (x0 y0 x1 y1 : Int) (w : World) (hn : n = l.length) (hl : n ≤ 8796093022208) (h : Rp w A l) (hw : Wf l) (hb : Wf [(x0, y0), (x1, y1)]) :
    Calls Try.prog 7 #[.slice A n c, .agg #[.int .i64 x0, .int .i64 y0, .int .i64 x1, .int .i64 y1]] w fun e w' => e = .returned (.bool true) ∧ Below w.heap.size w w' := by
  have BB : Hid (Below w.heap.size w (w.alloc (.cells #[.int .i64 x0, .int .i64 y0, .int .i64 x1, .int .i64 y1] 26))) := Lib.hid ((Below.refl _ _).alloc (Nat.le_refl _) _)
  have BX : Hid (BoxAt (w.alloc (.cells #[.int .i64 x0, .int .i64 y0, .int .i64 x1, .int .i64 y1] 26)) w.heap.size ⟨x0, y0, x1, y1⟩) := Lib.hid (heap_alloc_new w _)
  have MV : Hid (∀ u, Rp u A l → Calls Try.prog 18 #[.slice A n c, .agg #[.int .i64 0, .int .i64 0]] u (MovedPost u l (0, 0))) := Lib.hid (fun u hu => moved_any A n c l 0 0 u hn hl hu)
  have PR : Hid (∀ u, Calls Try.prog 19 #[.agg #[.int .i64 x0, .int .i64 y0, .int .i64 x1, .int .i64 y1]] u fun e w' => e = .returned (.bool (Cl.boxB ⟨x0, y0, x1, y1⟩)) ∧ Below u.heap.size u w') := Lib.hid (fun u => rproper_any x0 y0 x1 y1 u)
  have H := Lib.hid h; have HN := Lib.hid hn; have HW := Lib.hid hw; have HB := Lib.hid hb
  clear h hn hw hb
  go_enter Try.func7, Try.ntmps7
  go_wp2_with fail
  refine (head_any _).mono ?_
  rintro e w1 ⟨rfl, hb1⟩
  have B1 := Lib.hid (BB.out.trans (hb1.mono BB.out.size)); have X1 := Lib.hid (BX.out.below hb1 BX.out.lt); clear hb1 BB BX
  go_wp2_with fail
  refine (MV.out _ (H.out.below B1.out)).mono ?_
  rintro e w2 ⟨A2, c2, rfl, -, -, hb2⟩
  have B2 := Lib.hid (B1.out.trans (hb2.mono B1.out.size)); have X2 := Lib.hid (X1.out.below hb2 X1.out.lt); clear hb2 B1 X1 MV
  obtain ⟨q0, q1, q2, q3⟩ := X2.out.c
  simp only at q0 q1 q2 q3
  generalize hok : mvOk l (0, 0) = ok
  have HOK := Lib.hid hok; clear hok
  by_cases hbig : 100 < n
  · have hd : decide ((100 : Int) < (n : Int)) = true := by simp; omega
    clear hbig
    go_wp2_with fail
    go_ret
    exact ⟨rfl, B2.out⟩
  · have hd : decide ((100 : Int) < (n : Int)) = false := by simp; omega
    generalize hbo : Cl.boxB ⟨x0, y0, x1, y1⟩ = bo at PR
    have HBO := Lib.hid hbo; clear hbo
    go_wp2_with fail
    refine (PR.out _).mono ?_
    rintro e w3 ⟨rfl, hb3⟩
    have B3 := Lib.hid (B2.out.trans (hb3.mono B2.out.size)); have X3 := Lib.hid (X2.out.below hb3 X2.out.lt); clear hb3 B2 X2 PR q0 q1 q2 q3
    rcases bo with _ | _
    · go_wp2_with fail
      go_ret
      exact ⟨rfl, B3.out⟩
    · rcases ok with _ | _
      · go_wp2_with fail
        go_ret
        exact ⟨rfl, B3.out⟩
      · have HAN := Lib.hid (near_mvOk HOK.out)
        clear HOK
        have DF : Hid (∀ u, Rp u A l → Calls Try.prog 21 #[.slice A n c] u (PtsPost u (Cl.cmpF l))) := Lib.hid (fun u hu => rdiff_p A n c l u HN.out (by omega) hu)
        generalize Cl.cmpF l = dl at DF
        go_wp2_with fail
        refine (DF.out _ (H.out.below B3.out)).mono ?_
        rintro e w4 ⟨A4, c4, rfl, -, -, hb4⟩
        have B4 := Lib.hid (B3.out.trans (hb4.mono B3.out.size)); have X4 := Lib.hid (X3.out.below hb4 X3.out.lt); clear hb4 B3 X3 DF
        generalize dl.length = dn
        by_cases hdn : dn = n
        · have hq : ((dn : Int) != (n : Int)) = false := by rw [hdn]; simp
          have hq2 : decide ((dn : Int) = (n : Int)) = true := by rw [hdn]; simp
          clear hdn
          have ST := Lib.hid (corners_start (l := l) (b := ⟨x0, y0, x1, y1⟩) HBO.out HAN.out)
          have LIN : Hid (∀ u, Rp u A l → Calls Try.prog 12 #[.slice A n c, .agg #[.int .i64 x0, .int .i64 y0, .int .i64 x1, .int .i64 y1]] u (PzPost u (clipL l ⟨x0, y0, x1, y1⟩))) := Lib.hid (fun u hu => line_p A n c l x0 y0 x1 y1 u _ HN.out (by omega) hu HW.out HB.out rfl)
          have CL : (clipL l ⟨x0, y0, x1, y1⟩).length ≤ 100 := by have := (clipL_len l ⟨x0, y0, x1, y1⟩).2; have := HN.out; omega
          have CX : Hid (∀ x ∈ clipL l ⟨x0, y0, x1, y1⟩, x.length ≤ 200) := Lib.hid (fun x hx => by have := (clipL_len l ⟨x0, y0, x1, y1⟩).1 x hx; have := HN.out; omega)
          generalize clipL l ⟨x0, y0, x1, y1⟩ = ps at *
          obtain ⟨q0, q1, q2, q3⟩ := X4.out.c
          simp only at q0 q1 q2 q3
          go_wp2_with fail
          refine (LIN.out _ (H.out.below B4.out)).mono ?_
          rintro e w5 ⟨A5, c5, rfl, pz5, hc5, hb5⟩
          have B5 := Lib.hid (B4.out.trans (hb5.mono B4.out.size)); have X5 := Lib.hid (X4.out.below hb5 X4.out.lt); have PZ5 := Lib.hid pz5; clear hb5 B4 X4 LIN q0 q1 q2 q3 pz5 hc5
          go_wp2_with fail
          go_loopw [8, 10] (fun v i wr => ∃ k : Nat, k ≤ ps.length ∧ i = .int .i64 k ∧ Hid (wr.ownsRow w5.heap.size 24 2 v (ps.take k).flatten.length ((ps.take k).flatten.flatMap ptCells)) ∧ Hid (Below w5.heap.size w5 wr)) (fun _ i _ => ps.length - (intOf i).toNat)
          case atStart => exact ⟨0, Nat.zero_le _, rfl, Lib.hid (World.ownsRow_nil _ _ _ _), Lib.hid (Below.refl _ _)⟩
          case round =>
            obtain ⟨k, hk, rfl, hown, hbel⟩ := hrel
            by_cases hlt : k < ps.length
            · obtain ⟨b, off, Ai, ci, rfl, hb, hc, hr, -, -⟩ := (PZ5.out.below hbel.out).at_ hlt
              have HR := Lib.hid hr; clear hr
              have hxl : ps[k].length ≤ 200 := CX.out _ (List.getElem_mem hlt)
              have hfl : (ps.take k).flatten.length ≤ 20000 := by
                have h1 := flat_len (ps := ps.take k) (m := 200) (fun x hx => CX.out x (List.mem_of_mem_take hx))
                have h2 : (ps.take k).length ≤ 100 := by rw [List.length_take]; omega
                have h3 : (ps.take k).length * 200 ≤ 100 * 200 := Nat.mul_le_mul_right _ h2
                omega
              have FT := Lib.hid (flat_take hlt)
              generalize ps[k] = x at *
              generalize (ps.take k).flatten = F at *
              have HL : Hid ((x.flatMap ptCells).length = x.length * 2) := Lib.hid (ptCells_len x)
              have hzz : w5.heap.size ≤ wr.heap.size := hbel.out.size
              go_wp2_with (at_builtin; refine wpList_appRS rfl (.tmp 57) (.tmp 61) 22 rfl Try.underlying22 info_pt rfl (by decide) w5.heap.size _ _ _ _ _ _ (x.flatMap ptCells) (pt_one x) rfl rfl (by exact hown.out) (by exact HR.out) HL.out hzz (by omega) (by omega) ?_; intro v6 w6 hown6 hb6 hg6)
              exact ⟨⟨k + 1, hlt, by go_num, Lib.hid (by rw [FT.out, List.flatMap_append, List.length_append]; exact hown6), Lib.hid (hbel.out.trans hb6)⟩, by simp [intOf]; omega⟩
            · have e8 : ps.take k = ps := List.take_of_length_le (by omega)
              obtain ⟨A8, c8, rfl, -, -⟩ := own_form hown.out
              rw [e8] at hown ⊢
              have R8 := Lib.hid (rp_own hown.out)
              have AL : ps.flatten.length ≤ 20000 := by
                have h1 := flat_len (ps := ps) (m := 200) CX.out
                have h3 : ps.length * 200 ≤ 100 * 200 := Nat.mul_le_mul_right _ CL
                omega
              have B8 := Lib.hid (B5.out.trans (hbel.out.mono B5.out.size)); have X8 := Lib.hid (X5.out.below hbel.out X5.out.lt)
              clear e8 hown hbel B5 X5 PZ5 CX CL
              generalize ps.flatten = ALL at *
              --LOOP2
              --LOOP2
              --LOOP2
              go_wp2_with fail
              go_loopw [11, 12] (fun s11 s12 w2 => ∃ kk i : Nat, kk ≤ ALL.length ∧ i ≤ n ∧ s11 = .int .i64 kk ∧ s12 = .int .i64 i ∧ Hid (Cl.Wk (ALL.drop kk) (relS ⟨x0, y0, x1, y1⟩ l i)) ∧ Hid (Below wr.heap.size wr w2)) (fun _ i _ => n - (intOf i).toNat)
              case atStart => exact ⟨0, 0, Nat.zero_le _, Nat.zero_le _, rfl, rfl, ST, Lib.hid (Below.refl _ _)⟩
              case round =>
                clear ST
                obtain ⟨kk, i, hkk, hi, rfl, rfl, hwk, hbel⟩ := hrel
                have DB := Lib.hid (B8.out.trans (hbel.out.mono B8.out.size))
                by_cases hin : i < n
                · have hil : i < l.length := by have := HN.out; omega
                  obtain ⟨b, off, rfl, hb, c0, c1⟩ := (H.out.below DB.out).at_ hil
                  obtain ⟨x, hx⟩ : ∃ x, x = l[i].1 := ⟨_, rfl⟩
                  obtain ⟨y, hy⟩ : ∃ y, y = l[i].2 := ⟨_, rfl⟩
                  rw [← hx] at c0; rw [← hy] at c1
                  have EQ : Hid (l[i] = (x, y)) := Lib.hid (by rw [hx, hy])
                  have NQ : Hid (Cl.nearB x y = true) := Lib.hid (by have := HAN.out; unfold allNear at this; rw [List.all_eq_true] at this; rw [hx, hy]; exact this _ (List.getElem_mem hil))
                  clear hx hy
                  have XR := Lib.hid (X8.out.below hbel.out X8.out.lt)
                  generalize hi8 : Cl.inB (x, y) ⟨x0, y0, x1, y1⟩ = i8
                  have IN : Hid (∀ u, Calls Try.prog 20 #[.agg #[.int .i64 x, .int .i64 y], .agg #[.int .i64 x0, .int .i64 y0, .int .i64 x1, .int .i64 y1]] u fun e w' => e = .returned (.bool i8) ∧ Below u.heap.size u w') := Lib.hid (fun u => by rw [← hi8]; exact rin_pt x y x0 y0 x1 y1 u)
                  have HI8 := Lib.hid hi8; clear hi8
                  obtain ⟨q0, q1, q2, q3⟩ := XR.out.c
                  have C0 : ∀ w', OldOf wr.drew w' → w'.cell? ⟨b, off + i * 2, none⟩ = some (.int .i64 x) := fun w' h => h.c (by exact c0)
                  have C1 : ∀ w', OldOf wr.drew w' → w'.cell? ⟨b, off + i * 2 + 1, none⟩ = some (.int .i64 y) := fun w' h => h.c (by exact c1)
                  have Q0 : ∀ w', OldOf wr.drew w' → w'.cell? ⟨w.heap.size, 0, none⟩ = some (.int .i64 x0) := fun w' h => h.c (by exact q0)
                  have Q1 : ∀ w', OldOf wr.drew w' → w'.cell? ⟨w.heap.size, 1, none⟩ = some (.int .i64 y0) := fun w' h => h.c (by exact q1)
                  have Q2 : ∀ w', OldOf wr.drew w' → w'.cell? ⟨w.heap.size, 2, none⟩ = some (.int .i64 x1) := fun w' h => h.c (by exact q2)
                  have Q3 : ∀ w', OldOf wr.drew w' → w'.cell? ⟨w.heap.size, 3, none⟩ = some (.int .i64 y1) := fun w' h => h.c (by exact q3)
                  have o0 : OldOf wr.drew wr.drew := OldOf.refl _
                  have i5 : (i : Int) < (n : Int) := by omega
                  have i6 : (0 : Int) ≤ (i : Int) := by omega
                  clear c0 c1 q0 q1 q2 q3
                  go_upto_region 15 with fail
                  go_region_held3 (fun w' => OldOf wr.drew w') (first | assumption | exact o2) (((with_reducible refine (IN.out _).mono ?_); rintro e w9 ⟨rfl, hb9⟩; have o2 := OldOf.below (by assumption) hb9))
                  have D9 := Lib.hid (hbel.out.trans (o2.undrew.mono hbel.out.size))
                  clear C0 C1 Q0 Q1 Q2 Q3 o0 o2 hb9 hbel XR IN DB
                  rcases i8 with _ | _
                  · go_wp2_with fail
                    exact ⟨⟨kk, i + 1, hkk, hin, rfl, by go_num, Lib.hid (by have := hwk.out; rwa [relS_no hil (by rw [EQ.out]; exact HI8.out)] at this), D9⟩, by simp [intOf]; omega⟩
                  · have B9 := Lib.hid (B8.out.trans (D9.out.mono B8.out.size)); have X9 := Lib.hid (X8.out.below D9.out X8.out.lt)
                    go_upto_if 77 with fail
                    go_cut [13] (fun s13 wx => s13 = .bool (Cl.al ⟨x0, y0, x1, y1⟩ (prevO l i) (x, y)) ∧ Hid (Below w9.heap.size w9 wx))
                    case first =>
                      by_cases hi0 : i = 0
                      · have d7 : decide ((0 : Int) < (i : Int)) = false := by simp; omega
                        have d8 : decide (0 < i) = false := by simp; omega
                        have HZ : Hid (Cl.al ⟨x0, y0, x1, y1⟩ (prevO l i) (x, y) = true) := Lib.hid (by rw [hi0]; rfl)
                        have hle : i ≤ 0 := by omega
                        have hle2 : (i : Int) ≤ 0 := by omega
                        clear hi0
                        go_wp2_with fail
                        go_meet
                        exact ⟨by rw [HZ.out], Lib.hid (Below.refl _ _)⟩
                      · have d7 : decide ((0 : Int) < (i : Int)) = true := by simp; omega
                        have d8 : decide (0 < i) = true := by simp; omega
                        have k1 : (0 : Int) ≤ (i : Int) - 1 := by omega
                        have k2 : ((i : Int) - 1).toNat = i - 1 := by omega
                        have k3 : IntKind.i64.wrap ((i : Int) - 1) = (i : Int) - 1 := IntWalk.i64_in _ (by omega)
                        have k4 : (i : Int) - 1 < (n : Int) := by omega
                        have k5 : (i : Int) ≤ (n : Int) := by omega
                        have k6 : i ≤ n := by omega
                        have k7 : (1 : Int) ≤ (i : Int) := by omega
                        have k8 : 1 ≤ i := by omega
                        have HAL := al_some (b := ⟨x0, y0, x1, y1⟩) (show i - 1 < l.length by omega) hi0 (x, y)
                        obtain ⟨b', off', e', hb', d0, d1⟩ := (H.out.below B9.out).at_ (k := i - 1) (by omega)
                        cases e'
                        obtain ⟨b', off', e', hb'', c0, c1⟩ := (H.out.below B9.out).at_ hil
                        cases e'
                        rw [EQ.out] at c0 c1; simp only at c0 c1
                        obtain ⟨q0, q1, q2, q3⟩ := X9.out.c
                        simp only at q0 q1 q2 q3
                        obtain ⟨px, hpx⟩ : ∃ v, v = l[i - 1].1 := ⟨_, rfl⟩
                        obtain ⟨py, hpy⟩ : ∃ v, v = l[i - 1].2 := ⟨_, rfl⟩
                        have EP : l[i - 1] = (px, py) := by rw [hpx, hpy]
                        rw [EP] at HAL d0 d1
                        have NP : Cl.nearB px py = true := by have := HAN.out; unfold allNear at this; rw [List.all_eq_true] at this; rw [hpx, hpy]; exact this _ (List.getElem_mem _)
                        obtain ⟨ax, ay, bx, by', ea, pc⟩ := piece_to px py x y x0 y0 x1 y1 NP NQ.out HBO.out HI8.out
                        rw [ea] at HAL
                        simp only at HAL d0 d1
                        have HALh := Lib.hid HAL; clear HAL
                        have PC := Lib.hid pc
                        clear hpx hpy EP NP ea pc hi0
                        go_upto_region 18 with fail
                        go_cut [14] (fun s14 wx => ∃ p14 : Nat, s14 = .pointer (some ⟨p14, 0, none⟩) ∧ wx.heap[p14]? = some (.cells #[.int .i64 ax, .int .i64 ay] 24 (0, 0)) ∧ Hid (Below w9.heap.size w9 wx))
                        case first =>
                          have C0 : ∀ w', OldOf w9.drew w' → w'.cell? ⟨b, off + i * 2, none⟩ = some (.int .i64 x) := fun w' h => h.c (by exact c0)
                          have C1 : ∀ w', OldOf w9.drew w' → w'.cell? ⟨b, off + i * 2 + 1, none⟩ = some (.int .i64 y) := fun w' h => h.c (by exact c1)
                          have D0 : ∀ w', OldOf w9.drew w' → w'.cell? ⟨b, off + (i - 1) * 2, none⟩ = some (.int .i64 px) := fun w' h => h.c (by exact d0)
                          have D1 : ∀ w', OldOf w9.drew w' → w'.cell? ⟨b, off + (i - 1) * 2 + 1, none⟩ = some (.int .i64 py) := fun w' h => h.c (by exact d1)
                          have Q0 : ∀ w', OldOf w9.drew w' → w'.cell? ⟨w.heap.size, 0, none⟩ = some (.int .i64 x0) := fun w' h => h.c (by exact q0)
                          have Q1 : ∀ w', OldOf w9.drew w' → w'.cell? ⟨w.heap.size, 1, none⟩ = some (.int .i64 y0) := fun w' h => h.c (by exact q1)
                          have Q2 : ∀ w', OldOf w9.drew w' → w'.cell? ⟨w.heap.size, 2, none⟩ = some (.int .i64 x1) := fun w' h => h.c (by exact q2)
                          have Q3 : ∀ w', OldOf w9.drew w' → w'.cell? ⟨w.heap.size, 3, none⟩ = some (.int .i64 y1) := fun w' h => h.c (by exact q3)
                          have o0 : OldOf w9.drew w9.drew := OldOf.refl _
                          clear c0 c1 d0 d1 q0 q1 q2 q3
                          go_region_held3 (fun w' => OldOf w9.drew w') (first | assumption | exact OldOf.alloc (by assumption) _ | exact o2 | exact o2.alloc _ | exact (o2.alloc _).alloc _ | exact (o2.set (by simp) _).set (by simp) _ | (repeat (first | exact o2 | refine OldOf.alloc ?_ _ | refine OldOf.set ?_ (by simp) _))) (((with_reducible refine (PC.out _).mono ?_); rintro e w2 ⟨rfl, hb2⟩; have o2 := OldOf.below (by assumption) hb2; have hc2 := (bcell hb2).1; have hf2 := (bcell hb2).2; have hs2 := hb2.size; (try simp at hs2); (first | (have hs8 := Nat.lt_of_succ_le hs2; first | (have hs9 := Nat.lt_of_succ_lt hs8) | skip) | skip)))
                          all_goals (go_wp2_with fail; go_meet; refine ⟨_, rfl, ?_, ?_⟩)
                          all_goals first
                            | (refine Lib.hid (OldOf.undrew ?_); (repeat (first | exact o2 | refine OldOf.alloc ?_ _ | (refine OldOf.set ?_ ?hp _; case hp => (first | (simp; done) | (simp; omega))))); done)
                            | (repeat (first
                                | with_reducible refine (drew_heap _ _).trans ?_
                                | ((with_reducible refine alloc_new' _ _ _ ?hn); case hn => (simp; done))
                                | ((with_reducible refine (alloc_old _ _ ?ho).trans ?_); case ho => (first | (simp; done) | (have := hb2.size; simp at this ⊢; omega)))
                                | with_reducible refine set_two (a := .int .i64 0) (b := .int .i64 0) ?_ _ _
                                | ((with_reducible refine (blk_two _ _ _ _ _ ?hb).trans ?_); case hb => (first | (simp; done) | (have := hb2.size; simp at this; omega)))
                                | ((with_reducible refine (Below.block hb2 _ ?hc).trans ?_); case hc => (simp; try omega))))
                        case rest =>
                          obtain ⟨p14, rfl, f14, hbx⟩ := hcut
                          obtain ⟨wx, hwx⟩ : ∃ wx, wx = wc := ⟨_, rfl⟩; rw [← hwx] at f14 hbx ⊢; clear hwx wc c0 c1 d0 d1 q0 q1 q2 q3
                          have BX9 := Lib.hid (B9.out.trans (hbx.out.mono B9.out.size))
                          obtain ⟨t0, t1⟩ := cell_two f14
                          obtain ⟨b', off', e', hb', c0, c1⟩ := (H.out.below BX9.out).at_ hil
                          cases e'
                          rw [EQ.out] at c0 c1; simp only at c0 c1
                          by_cases ex : ax = x
                          · have ex' : (ax == x) = true := by simpa using ex
                            have ex2 : decide (ax = x) = true := by simpa using ex
                            by_cases ey : ay = y
                            · have ey' : (ay == y) = true := by simpa using ey
                              have HF : Hid (Cl.al ⟨x0, y0, x1, y1⟩ (prevO l i) (x, y) = true) := Lib.hid (by rw [HALh.out]; simp [ex, ey])
                              clear ex ey
                              go_wp2_with fail
                              go_quiet (fail)
                              go_wp2_with fail
                              go_meet
                              exact ⟨by rw [HF.out], Lib.hid (below_drewN hbx.out _)⟩
                            · have ey' : (ay == y) = false := by simpa using ey
                              have HF : Hid (Cl.al ⟨x0, y0, x1, y1⟩ (prevO l i) (x, y) = false) := Lib.hid (by rw [HALh.out]; simp [ey])
                              clear ex ey
                              go_wp2_with fail
                              go_quiet (fail)
                              go_wp2_with fail
                              go_meet
                              exact ⟨by rw [HF.out], Lib.hid (below_drewN hbx.out _)⟩
                          · have ex' : (ax == x) = false := by simpa using ex
                            have HF : Hid (Cl.al ⟨x0, y0, x1, y1⟩ (prevO l i) (x, y) = false) := Lib.hid (by rw [HALh.out]; simp [ex])
                            clear ex
                            go_wp2_with fail
                            go_quiet (fail)
                            go_wp2_with fail
                            go_meet
                            exact ⟨by rw [HF.out], Lib.hid (below_drewN hbx.out _)⟩
                    case rest =>
                      obtain ⟨rfl, hbx⟩ := hcut
                      obtain ⟨wa, hwx⟩ : ∃ wx, wx = wc := ⟨_, rfl⟩; rw [← hwx] at hbx ⊢; clear hwx wc
                      have D10 := Lib.hid (D9.out.trans (hbx.out.mono D9.out.size)); have B10 := Lib.hid (B9.out.trans (hbx.out.mono B9.out.size)); have X10 := Lib.hid (X9.out.below hbx.out X9.out.lt)
                      clear hbx D9 B9 X9
                      generalize ha1 : Cl.al ⟨x0, y0, x1, y1⟩ (prevO l i) (x, y) = a1
                      have HA1 := Lib.hid ha1; clear ha1
                      go_upto_if 106 with fail
                      go_cut [13] (fun s13 wx => s13 = .bool (a1 && nextB ⟨x0, y0, x1, y1⟩ l i (x, y)) ∧ Hid (Below wa.heap.size wa wx))
                      case first =>
                        by_cases hi1 : i + 1 < n
                        · have d7 : decide ((i : Int) + 1 < (n : Int)) = true := by simp; omega
                          have d8 : decide (i + 1 < n) = true := by simp; omega
                          have k1 : (0 : Int) ≤ (i : Int) + 1 := by omega
                          have k2 : ((i : Int) + 1).toNat = i + 1 := by omega
                          have k3 : IntKind.i64.wrap ((i : Int) + 1) = (i : Int) + 1 := IntWalk.i64_in _ (by omega)
                          have k4 : (i : Int) + 1 < (n : Int) := by omega
                          have k5 : (i : Int) ≤ (n : Int) := by omega
                          have k6 : i ≤ n := by omega
                          have hil1 : i + 1 < l.length := by have := HN.out; omega
                          have HNX := nextB_some (b := ⟨x0, y0, x1, y1⟩) hil1 (x, y)
                          obtain ⟨b', off', e', hb', d0, d1⟩ := (H.out.below B10.out).at_ (k := i + 1) hil1
                          cases e'
                          obtain ⟨b', off', e', hb'', c0, c1⟩ := (H.out.below B10.out).at_ hil
                          cases e'
                          rw [EQ.out] at c0 c1; simp only at c0 c1
                          obtain ⟨q0, q1, q2, q3⟩ := X10.out.c
                          simp only at q0 q1 q2 q3
                          obtain ⟨px, hpx⟩ : ∃ v, v = l[i + 1].1 := ⟨_, rfl⟩
                          obtain ⟨py, hpy⟩ : ∃ v, v = l[i + 1].2 := ⟨_, rfl⟩
                          have EP : l[i + 1] = (px, py) := by rw [hpx, hpy]
                          rw [EP] at HNX d0 d1
                          have NP : Cl.nearB px py = true := by have := HAN.out; unfold allNear at this; rw [List.all_eq_true] at this; rw [hpx, hpy]; exact this _ (List.getElem_mem _)
                          obtain ⟨ax, ay, bx, by', ea, pc⟩ := piece_from px py x y x0 y0 x1 y1 NP NQ.out HBO.out HI8.out
                          rw [ea] at HNX
                          simp only at HNX d0 d1
                          have HNXh := Lib.hid HNX
                          have PC := Lib.hid pc
                          clear hpx hpy EP NP ea pc HNX
                          go_upto_region 21 with fail
                          go_cut [18] (fun s18 wx => ∃ p18 : Nat, s18 = .pointer (some ⟨p18, 0, none⟩) ∧ wx.heap[p18]? = some (.cells #[.int .i64 bx, .int .i64 by'] 24 (0, 0)) ∧ Hid (Below wa.heap.size wa wx))
                          case first =>
                            have C0 : ∀ w', OldOf wa.drew w' → w'.cell? ⟨b, off + i * 2, none⟩ = some (.int .i64 x) := fun w' h => h.c (by exact c0)
                            have C1 : ∀ w', OldOf wa.drew w' → w'.cell? ⟨b, off + i * 2 + 1, none⟩ = some (.int .i64 y) := fun w' h => h.c (by exact c1)
                            have D0 : ∀ w', OldOf wa.drew w' → w'.cell? ⟨b, off + (i + 1) * 2, none⟩ = some (.int .i64 px) := fun w' h => h.c (by exact d0)
                            have D1 : ∀ w', OldOf wa.drew w' → w'.cell? ⟨b, off + (i + 1) * 2 + 1, none⟩ = some (.int .i64 py) := fun w' h => h.c (by exact d1)
                            have Q0 : ∀ w', OldOf wa.drew w' → w'.cell? ⟨w.heap.size, 0, none⟩ = some (.int .i64 x0) := fun w' h => h.c (by exact q0)
                            have Q1 : ∀ w', OldOf wa.drew w' → w'.cell? ⟨w.heap.size, 1, none⟩ = some (.int .i64 y0) := fun w' h => h.c (by exact q1)
                            have Q2 : ∀ w', OldOf wa.drew w' → w'.cell? ⟨w.heap.size, 2, none⟩ = some (.int .i64 x1) := fun w' h => h.c (by exact q2)
                            have Q3 : ∀ w', OldOf wa.drew w' → w'.cell? ⟨w.heap.size, 3, none⟩ = some (.int .i64 y1) := fun w' h => h.c (by exact q3)
                            have o0 : OldOf wa.drew wa.drew := OldOf.refl _
                            clear c0 c1 d0 d1 q0 q1 q2 q3
                            go_region_held3 (fun w' => OldOf wa.drew w') (first | assumption | exact OldOf.alloc (by assumption) _ | exact o2 | exact o2.alloc _ | exact (o2.alloc _).alloc _ | exact (o2.set (by simp) _).set (by simp) _ | (repeat (first | exact o2 | refine OldOf.alloc ?_ _ | refine OldOf.set ?_ (by simp) _))) (((with_reducible refine (PC.out _).mono ?_); rintro e w2 ⟨rfl, hb2⟩; have o2 := OldOf.below (by assumption) hb2; have hc2 := (bcell hb2).1; have hf2 := (bcell hb2).2; have hs2 := hb2.size; (try simp at hs2); (first | (have hs8 := Nat.lt_of_succ_le hs2; first | (have hs9 := Nat.lt_of_succ_lt hs8) | skip) | skip)))
                            all_goals (go_wp2_with fail; go_meet; refine ⟨_, rfl, ?_, ?_⟩)
                            all_goals first
                              | (refine Lib.hid (OldOf.undrew ?_); (repeat (first | exact o2 | refine OldOf.alloc ?_ _ | (refine OldOf.set ?_ ?hp _; case hp => (first | (simp; done) | (simp; omega))))); done)
                              | (repeat (first
                                  | with_reducible refine (drew_heap _ _).trans ?_
                                  | ((with_reducible refine alloc_new' _ _ _ ?hn); case hn => (simp; done))
                                  | ((with_reducible refine (alloc_old _ _ ?ho).trans ?_); case ho => (first | (simp; done) | (have := hb2.size; simp at this ⊢; omega)))
                                  | with_reducible refine set_two (a := .int .i64 0) (b := .int .i64 0) ?_ _ _
                                  | ((with_reducible refine (blk_two _ _ _ _ _ ?hb).trans ?_); case hb => (first | (simp; done) | (have := hb2.size; simp at this; omega)))
                                  | ((with_reducible refine (Below.block hb2 _ ?hc).trans ?_); case hc => (simp; try omega))))
                          case rest =>
                            obtain ⟨p18, rfl, f18, hbx⟩ := hcut
                            obtain ⟨wx, hwx⟩ : ∃ wx, wx = wc := ⟨_, rfl⟩; rw [← hwx] at f18 hbx ⊢; clear hwx wc c0 c1 d0 d1 q0 q1 q2 q3
                            have BX9 := Lib.hid (B10.out.trans (hbx.out.mono B10.out.size))
                            obtain ⟨t0, t1⟩ := cell_two f18
                            obtain ⟨b', off', e', hb', c0, c1⟩ := (H.out.below BX9.out).at_ hil
                            cases e'
                            rw [EQ.out] at c0 c1; simp only at c0 c1
                            rcases a1 with _ | _
                            · go_wp2_with fail
                              go_quiet (fail)
                              go_wp2_with fail
                              go_meet
                              exact ⟨rfl, Lib.hid (below_drewN hbx.out _)⟩
                            · by_cases ex : bx = x
                              · have ex' : (bx == x) = true := by simpa using ex
                                by_cases ey : by' = y
                                · have ey' : (by' == y) = true := by simpa using ey
                                  have HF : Hid (nextB ⟨x0, y0, x1, y1⟩ l i (x, y) = true) := Lib.hid (by rw [HNXh.out]; simp [ex, ey])
                                  clear ex ey
                                  go_wp2_with fail
                                  go_quiet (fail)
                                  go_wp2_with fail
                                  go_meet
                                  exact ⟨by rw [HF.out]; rfl, Lib.hid (below_drewN hbx.out _)⟩
                                · have ey' : (by' == y) = false := by simpa using ey
                                  have HF : Hid (nextB ⟨x0, y0, x1, y1⟩ l i (x, y) = false) := Lib.hid (by rw [HNXh.out]; simp [ey])
                                  clear ex ey
                                  go_wp2_with fail
                                  go_quiet (fail)
                                  go_wp2_with fail
                                  go_meet
                                  exact ⟨by rw [HF.out]; rfl, Lib.hid (below_drewN hbx.out _)⟩
                              · have ex' : (bx == x) = false := by simpa using ex
                                have HF : Hid (nextB ⟨x0, y0, x1, y1⟩ l i (x, y) = false) := Lib.hid (by rw [HNXh.out]; simp [ex])
                                clear ex
                                go_wp2_with fail
                                go_quiet (fail)
                                go_wp2_with fail
                                go_meet
                                exact ⟨by rw [HF.out]; rfl, Lib.hid (below_drewN hbx.out _)⟩
                        · have d7 : decide ((i : Int) + 1 < (n : Int)) = false := by simp; omega
                          have d8 : decide (i + 1 < n) = false := by simp; omega
                          have HF : Hid (nextB ⟨x0, y0, x1, y1⟩ l i (x, y) = true) := Lib.hid (nextB_none (by have := HN.out; omega) _)
                          have hle : n ≤ i + 1 := by omega
                          have hle2 : (n : Int) ≤ (i : Int) + 1 := by omega
                          clear hi1
                          go_wp2_with fail
                          go_meet
                          exact ⟨by rw [HF.out, Bool.and_true], Lib.hid (Below.refl _ _)⟩
                      case rest =>
                        obtain ⟨rfl, hbx⟩ := hcut
                        obtain ⟨wb, hwx⟩ : ∃ wx, wx = wc := ⟨_, rfl⟩; rw [← hwx] at hbx ⊢; clear hwx wc
                        have D11 := Lib.hid (D10.out.trans (hbx.out.mono D10.out.size)); have B11 := Lib.hid (B10.out.trans (hbx.out.mono B10.out.size))
                        clear hbx D10 B10 X10
                        have HAT : Hid (aloneAt ⟨x0, y0, x1, y1⟩ l i (x, y) = (a1 && nextB ⟨x0, y0, x1, y1⟩ l i (x, y))) := Lib.hid (by unfold aloneAt; rw [HA1.out])
                        generalize (a1 && nextB ⟨x0, y0, x1, y1⟩ l i (x, y)) = al at *
                        clear HA1
                        rcases al with _ | _
                        · have WK : Hid (Cl.Wk (ALL.drop kk) ((x, y) :: relS ⟨x0, y0, x1, y1⟩ l (i + 1))) := Lib.hid (by
                            have h1 := hwk.out
                            rw [relS_yes hil (by rw [EQ.out]; exact HI8.out) (by rw [EQ.out]; exact HAT.out), EQ.out] at h1
                            exact h1)
                          clear HAT hwk
                          go_wp2_with fail
                          go_loopw [11] (fun s11 w3 => ∃ k2 : Nat, k2 ≤ ALL.length ∧ s11 = .int .i64 k2 ∧ Hid (Cl.Wk (ALL.drop k2) ((x, y) :: relS ⟨x0, y0, x1, y1⟩ l (i + 1))) ∧ Hid (Below wb.heap.size wb w3)) (fun i _ => ALL.length - (intOf i).toNat)
                          case atStart => exact ⟨kk, hkk, rfl, WK, Lib.hid (Below.refl _ _)⟩
                          case round =>
                            clear WK
                            obtain ⟨k2, hk2, rfl, hwk2, hb3⟩ := hrel
                            by_cases hlt2 : k2 < ALL.length
                            · have d1 : decide ((k2 : Int) < (ALL.length : Int)) = true := by simp; omega
                              have d2 : decide (k2 < ALL.length) = true := by simp; omega
                              have D12 := Lib.hid (D11.out.trans (hb3.out.mono D11.out.size)); have B12 := Lib.hid (B11.out.trans (hb3.out.mono B11.out.size))
                              obtain ⟨b2, off2, rfl, hb2, e0, e1⟩ := (rp_below R8.out D12.out).at_ hlt2
                              obtain ⟨b', off', e', hb', c0, c1⟩ := (rp_below H.out B12.out).at_ hil
                              cases e'
                              rw [EQ.out] at c0 c1; simp only at c0 c1
                              obtain ⟨ax, hax⟩ : ∃ v, v = ALL[k2].1 := ⟨_, rfl⟩
                              obtain ⟨ay, hay⟩ : ∃ v, v = ALL[k2].2 := ⟨_, rfl⟩
                              rw [← hax] at e0; rw [← hay] at e1
                              have EA : Hid (ALL[k2] = (ax, ay)) := Lib.hid (by rw [hax, hay])
                              have f1 : (k2 : Int) < (ALL.length : Int) := by omega
                              have f2 : (0 : Int) ≤ (k2 : Int) := by omega
                              have f3 : ((k2 : Int) == (ALL.length : Int)) = false := by simp; omega
                              have f4 : decide ((k2 : Int) = (ALL.length : Int)) = false := by simp; omega
                              have f5 : decide (k2 = ALL.length) = false := by simp; omega
                              have f6 : (k2 == ALL.length) = false := by simp; omega
                              clear hax hay
                              by_cases ex : ax = x
                              · have ex' : (ax == x) = true := by simpa using ex
                                by_cases ey : ay = y
                                · have ey' : (ay == y) = true := by simpa using ey
                                  have HIT : Hid (Cl.Wk (ALL.drop k2) (relS ⟨x0, y0, x1, y1⟩ l (i + 1))) := Lib.hid (wk_hit hlt2 hwk2.out (by rw [EA.out, ex, ey]))
                                  clear ex ey
                                  go_wp2_with fail
                                  go_quiet (fail)
                                  go_wp2_with fail
                                  exact ⟨⟨k2, i + 1, hk2, hin, rfl, by go_num, HIT, Lib.hid (below_drewN D12.out _)⟩, by simp [intOf]; omega⟩
                                · have ey' : (ay == y) = false := by simpa using ey
                                  have MISS : Hid (Cl.Wk (ALL.drop (k2 + 1)) ((x, y) :: relS ⟨x0, y0, x1, y1⟩ l (i + 1))) := Lib.hid (wk_skip hlt2 hwk2.out (by rw [EA.out]; intro h; exact ey (congrArg Prod.snd h)))
                                  clear ex ey
                                  go_wp2_with fail
                                  go_quiet (fail)
                                  go_wp2_with fail
                                  exact ⟨⟨k2 + 1, hlt2, by go_num, MISS, Lib.hid (below_drewN hb3.out _)⟩, by simp [intOf]; omega⟩
                              · have ex' : (ax == x) = false := by simpa using ex
                                have MISS : Hid (Cl.Wk (ALL.drop (k2 + 1)) ((x, y) :: relS ⟨x0, y0, x1, y1⟩ l (i + 1))) := Lib.hid (wk_skip hlt2 hwk2.out (by rw [EA.out]; intro h; exact ex (congrArg Prod.fst h)))
                                clear ex
                                go_wp2_with fail
                                go_quiet (fail)
                                go_wp2_with fail
                                exact ⟨⟨k2 + 1, hlt2, by go_num, MISS, Lib.hid (below_drewN hb3.out _)⟩, by simp [intOf]; omega⟩
                            · exfalso
                              exact wk_end (by omega) hwk2.out
                        · have HIT : Hid (Cl.Wk (ALL.drop kk) (relS ⟨x0, y0, x1, y1⟩ l (i + 1))) := Lib.hid (by
                            have h1 := hwk.out
                            rwa [relS_alone hil (by rw [EQ.out]; exact HAT.out)] at h1)
                          clear HAT hwk
                          go_wp2_with fail
                          exact ⟨⟨kk, i + 1, hkk, hin, rfl, by go_num, HIT, D11⟩, by simp [intOf]; omega⟩
                · go_wp2_with fail
                  go_ret
                  exact ⟨rfl, DB.out⟩
        · have hq : ((dn : Int) != (n : Int)) = true := by simp; omega
          have hq2 : decide ((dn : Int) = (n : Int)) = false := by simp; omega
          clear hdn
          go_wp2_with fail
          go_ret
          exact ⟨rfl, B4.out⟩
theorem walk_ClipCorners (A : Option Addr) (n c : Nat) (l : List Cl.Pt) (x0 y0 x1 y1 : Int) (w : World) (hn : n = l.length) (h1 : n ≤ c) (h2 : c ≤ 8796093022208) (h : Rp w A l) (hw : Wf l) (hb : Wf [(x0, y0), (x1, y1)]) :
    Calls Try.prog 7 #[.slice A n c, .agg #[.int .i64 x0, .int .i64 y0, .int .i64 x1, .int .i64 y1]] w fun e w' => e = .returned (.bool true) ∧ Below w.heap.size w w' := corners_any A n c l x0 y0 x1 y1 w hn (by omega) h hw hb
end Go.Proofs.Ytdiknijbjmhacaa
