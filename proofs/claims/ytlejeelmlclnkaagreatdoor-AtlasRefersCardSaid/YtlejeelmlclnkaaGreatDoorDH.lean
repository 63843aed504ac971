/- WALK: the statement AtlasRefers. -/
import Derived.Test.YtlejeelmlclnkaaGreatDoorDB
import Derived.Test.YtlejeelmlclnkaaGreatDoorAT
set_option linter.unusedSimpArgs false
set_option linter.unusedVariables false
namespace Go.Proofs.YtlejeelmlclnkaaGreatDoor
open Go.RowKit

theorem few_len3 {l : List RO} (h : fewM (cts l) = true) : l.length ≤ 30 := by
  unfold fewM at h
  rw [Bool.and_eq_true, decide_eq_true_eq, cts_len] at h
  exact h.1
theorem few_one3 {l : List RO} {A : Option Addr} {c : Nat} : allFew [⟨A, c, l⟩] = fewM (cts l) := by simp [allFew]
theorem lt_of_cell' {w : World} {b o : Nat} {v : Value} (h : w.cell? ⟨b, o, none⟩ = some v) : b < w.heap.size := World.block_lt_of_cell? w ⟨b, o, none⟩ h
set_option maxHeartbeats 8000000 in
set_option maxRecDepth 100000 in
theorem walk_AtlasRefers (A : Option Addr) (c : Nat) (l : List RO) (s : ByteArray) (w : World) (hc : l.length ≤ c) (hcm : c ≤ 9223372036854775807) (h : Mw w A l) (hs : s.size ≤ maxLen) (ht : Tab w) :
    Calls Tryz.prog 9 #[.agg #[.slice A l.length c], .string s] w fun e w' => e = .returned (.bool true) ∧ Below w.heap.size w w' := by
  obtain ⟨id, rfl⟩ : ∃ id, s = mkB id := ⟨s.data.toList, (mkB_of s).symm⟩
  have HM := Lib.hid h
  have HT := Lib.hid ht
  obtain ⟨n, hn⟩ : ∃ n, n = l.length := ⟨_, rfl⟩
  have HN := Lib.hid hn
  rw [← hn] at hc ⊢
  obtain ⟨w1, hw1⟩ : ∃ w1, w1 = w.alloc (.cells #[.slice A n c] 24) := ⟨_, rfl⟩
  have X0 : w1.heap[w.heap.size]? = some (.cells #[.slice A n c] 24 (0, 0)) := by rw [hw1]; exact heap_alloc_new w _
  have BX : Below w.heap.size w w1 := by rw [hw1]; exact (Below.refl _ _).alloc (Nat.le_refl _) _
  have z1 : w.heap.size < w1.heap.size := by rw [hw1]; simp
  have ENV : Hid (∀ u, Below w1.heap.size w1 u → u.cell? ⟨w.heap.size, 0, none⟩ = some (.slice A n c) ∧ Mw u A l ∧ Below w.heap.size w u) := Lib.hid (fun u hu => ⟨by have := cell_of_row u w.heap.size 0 _ _ _ ((hu.block _ z1).trans X0); simpa using this, HM.out.below (BX.trans (Below.mono hu BX.size)), BX.trans (Below.mono hu BX.size)⟩)
  have HD := Lib.hid (head_any w1 (HT.out.keep BX))
  clear h ht hn X0
  go_enter Tryz.func9, Tryz.ntmps9
  go_wp2_with fail
  rw [← hw1]
  clear hw1 BX
  refine HD.out.mono ?_
  rintro e u1 ⟨rfl, b1⟩
  obtain ⟨k0, m1, bw1⟩ := ENV.out u1 b1
  obtain ⟨x1, hx1'⟩ : ∃ x1, x1 = u1.alloc (.cells #[.slice A n c] 24) := ⟨_, rfl⟩
  have bx1 : Below u1.heap.size u1 x1 := by rw [hx1']; exact (Below.refl _ _).alloc (Nat.le_refl _) _
  have FW := Lib.hid (few_any (some ⟨u1.heap.size, 0, none⟩) 1 1 [⟨A, c, l⟩] x1 rfl (by decide) (by rw [hx1', HN.out]; exact Rd.of_row (heap_alloc_new u1 _) (List.prefix_refl _)) (fun m hm => by rw [List.mem_singleton.1 hm]; exact ⟨m1.below bx1, by show l.length ≤ _; rw [← HN.out]; omega⟩))
  rw [few_one3] at FW
  have B1 := Lib.hid (b1.trans (Below.mono bx1 b1.size))
  clear m1 bw1 b1 HD
  go_wp2_with fail
  rw [← hx1']
  clear hx1' bx1 k0
  refine FW.out.mono ?_
  rintro e u2 ⟨rfl, b2⟩
  have B2 := Lib.hid (B1.out.trans (Below.mono b2 B1.out.size))
  obtain ⟨k0, m2, bw2⟩ := ENV.out u2 B2.out
  have BW2 := Lib.hid bw2
  have M2 := Lib.hid m2
  clear b2 B1 FW bw2 m2
  cases hf : fewM (cts l)
  · go_wp2_with fail
    go_ret
    exact ⟨rfl, BW2.out⟩
  · have MS := Lib.hid (M2.out.ms hf)
    have hl : n ≤ 30 := by rw [HN.out]; exact few_len3 hf
    have VD := Lib.hid (avalid_any A c l n u2 HN.out MS.out)
    clear hf
    by_cases h3 : (300 : Int) < ((mkB id).size : Int)
    · go_wp2_with fail
      go_ret
      exact ⟨rfl, BW2.out⟩
    · have h4 : decide ((300 : Int) < ((mkB id).size : Int)) = false := decide_eq_false h3
      go_wp2_with fail
      refine VD.out.mono ?_
      rintro e u3 ⟨rfl, b3⟩
      have B3 := Lib.hid (B2.out.trans (Below.mono b3 B2.out.size))
      have MS := Lib.hid (MS.out.below b3)
      obtain ⟨k0, -, bw3⟩ := ENV.out u3 B3.out
      have BW3 := Lib.hid bw3
      clear b3 B2 VD bw3 M2 BW2 h3 h4
      cases hV : At.validM (cts l)
      · go_wp2_with fail
        go_ret
        exact ⟨rfl, BW3.out⟩
      · have HV := Lib.hid hV
        have HS := Lib.hid (At.validM_iff.1 hV).1
        have RF := Lib.hid (refers_any A n c l id u3 HN.out MS.out)
        rw [show refersM (cts l) id = refersL (cts l) id from by unfold refersM; rw [hV]; rfl] at RF
        clear hV
        go_wp2_with fail
        refine RF.out.mono ?_
        rintro e u4 ⟨A6, c6, rfl, r6, b4⟩
        have E2 : Hid (∀ u, Below u4.heap.size u4 u → u.cell? ⟨w.heap.size, 0, none⟩ = some (.slice A n c) ∧ Ms u A l ∧ Below w.heap.size w u ∧ Rd u A6 (strsC (refersL (cts l) id))) := Lib.hid (fun u hu => by
          have hb := b4.trans (Below.mono hu b4.size)
          obtain ⟨h1, -, h3⟩ := ENV.out u (B3.out.trans (Below.mono hb B3.out.size))
          exact ⟨h1, MS.out.below hb, h3, r6.below hu⟩)
        have z4 : w.heap.size < u4.heap.size := by have := B3.out.size; have := b4.size; omega
        have rl : (refersL (cts l) id).length ≤ 30 := by unfold refersL; rw [List.length_map]; exact Nat.le_trans (List.length_filter_le _ _) (by rw [cts_len, ← HN.out]; exact hl)
        obtain ⟨k0, MSS, -, -⟩ := E2.out u4 (Below.refl _ _)
        have ST : Hid (0 = (refersL ((cts l).take 0) id).length) := Lib.hid rfl
        have BB : Hid (Below u4.heap.size u4 u4) := Lib.hid (Below.refl _ _)
        clear RF r6 b4 BW3 MSS
        obtain ⟨rn, hrn⟩ : ∃ rn, rn = (refersL (cts l) id).length := ⟨_, rfl⟩
        have HRN := Lib.hid hrn
        rw [← hrn] at rl ⊢
        clear hrn
        go_upto_region 7 with fail
        go_loopw [7, 8, 9, 10] (fun s7 s8 s9 s10 wr => ∃ (k q : Nat), k ≤ n ∧ q ≤ k ∧ s8 = .int .i64 (k : Int) ∧ s7 = .int .i64 (q : Int) ∧ (∃ p, s9 = p) ∧ (∃ p, s10 = p) ∧ Hid (q = (refersL ((cts l).take k) id).length) ∧ Hid (Below u4.heap.size u4 wr)) (fun _ i _ _ _ => n - (intOf i).toNat)
        case atStart => exact ⟨0, 0, Nat.zero_le _, Nat.le_refl _, rfl, rfl, ⟨_, rfl⟩, ⟨_, rfl⟩, ST, BB⟩
        case round =>
          clear ST BB k0
          obtain ⟨k, q, hk, hqk, rfl, rfl, ⟨p9, rfl⟩, ⟨p10, rfl⟩, QE, BL⟩ := hrel
          obtain ⟨k0, MR, bw, r6⟩ := E2.out wr BL.out
          have MR := Lib.hid MR
          have BW := Lib.hid bw
          have R6 := Lib.hid r6
          clear bw r6
          by_cases hlt : k < n
          · have d1 : (k : Int) < (n : Int) := by omega
            have d2 : (0 : Int) ≤ (k : Int) := by omega
            have hkl : k < l.length := by rw [← HN.out]; exact hlt
            have hkc : k < (cts l).length := by rw [cts_len]; exact hkl
            obtain ⟨b, off, rfl, hb, e0, e1, e2, e3, e4, e5⟩ := ros_at MR.out.rd hkl
            have HO := MR.out.ob l[k] (List.getElem_mem hkl)
            have SZ := MR.out.sz l[k] (List.getElem_mem hkl)
            have GK : (cts l)[k] = l[k].c := by simp [cts]
            obtain ⟨n1, n2⟩ := refers_next HS.out hkc id
            have TK := Lib.hid (refers_take hkc id)
            rw [GK, ← QE.out] at n1 n2
            rw [GK] at TK
            generalize l[k] = y at *
            have HA : Hid (∀ u, Below wr.heap.size wr u → ∀ A1 q1, y.rv = .slice A1 y.c.refs.length q1 → Calls Tryz.prog 45 #[.slice A1 y.c.refs.length q1, .string (mkB id)] u fun e w' => e = .returned (.bool (decide (id ∈ y.c.refs))) ∧ Below u.heap.size u w') := Lib.hid (fun u hu A1 q1 hv => by
              obtain ⟨A1', q1', hv', r1⟩ := (HO.below hu).rs
              rw [hv] at hv'
              injection hv' with e1 _ e2
              subst e1 e2
              exact rhas_any A1 y.c.refs.length q1 y.c.refs id u rfl (by have := SZ.2; omega) r1)
            obtain ⟨B1, r1, v1, -⟩ := HO.rs
            obtain ⟨B2, r2, v2, -⟩ := HO.ts
            rw [v1] at e4
            rw [v2] at e5
            have HB := Lib.hid (fun u hu => HA.out u hu B1 r1 v1)
            have N1 := Lib.hid n1
            have N2 := Lib.hid n2
            have t1 := mkB_tl y.c.id
            clear n1 n2 HA HO SZ v1 v2 GK
            go_upto_region 10 with fail
            obtain ⟨y1, hy1⟩ : ∃ y1, y1 = wr.alloc (.cells #[.string (mkB y.c.id), .int .i64 y.c.kind, .int .i64 y.c.x, .int .i64 y.c.y, .slice B1 y.c.refs.length r1, .slice B2 y.c.tags.length r2] 43) := ⟨_, rfl⟩
            rw [← hy1]
            have BY : Hid (Below wr.heap.size wr y1) := Lib.hid (by rw [hy1]; exact (Below.refl _ _).alloc (Nat.le_refl _) _)
            have YX : Hid (y1.heap[wr.heap.size]? = some (.cells #[.string (mkB y.c.id), .int .i64 y.c.kind, .int .i64 y.c.x, .int .i64 y.c.y, .slice B1 y.c.refs.length r1, .slice B2 y.c.tags.length r2] 43 (0, 0))) := Lib.hid (by rw [hy1]; exact heap_alloc_new wr _)
            clear hy1 e0 e1 e2 e3 e4 e5 k0
            have y0 := cell_of_row y1 wr.heap.size 0 _ _ _ YX.out
            simp at y0
            have dq : (0 : Int) ≤ (q : Int) := by omega
            by_cases hm : id ∈ y.c.refs
            · have HM1 := Lib.hid hm
              have g1 := N1.out hm
              have hq : q < (refersL (cts l) id).length := (List.getElem?_eq_some_iff.1 g1).1
              have dq2 : (q : Int) < (rn : Int) := by rw [HRN.out]; omega
              obtain ⟨b6, o6, rfl, hb6, f0⟩ := strs_at (R6.out.below BY.out) hq
              rw [(List.getElem?_eq_some_iff.1 g1).2] at f0
              have w1 : IntKind.i64.wrap ((q : Int) + 1) = (q : Int) + 1 := IntWalk.i64_in _ (by omega)
              have QN : Hid (q + 1 = (refersL ((cts l).take (k + 1)) id).length) := Lib.hid (by rw [TK.out, List.length_append, ← QE.out]; simp [HM1.out])
              have dh : decide (id ∈ y.c.refs) = true := decide_eq_true hm
              rw [dh] at HB
              clear g1 hq hm dh N1 N2
              go_quiet (fail)
              have YX2 := Lib.hid (show (y1.drewN nq).heap[wr.heap.size]? = _ from YX.out)
              have BY2 : Hid (Below wr.heap.size wr (y1.drewN nq)) := Lib.hid (below_drewN BY.out nq)
              clear y0 f0 YX BY
              generalize y1.drewN nq = y2 at *
              have y4 := cell_of_row y2 wr.heap.size 4 _ _ _ YX2.out
              simp at y4
              go_wp2_with fail
              refine (HB.out _ BY2.out).mono ?_
              rintro e u5 ⟨rfl, b5⟩
              have B5 := Lib.hid (BL.out.trans (Below.mono (BY2.out.trans (Below.mono b5 BY2.out.size)) BL.out.size))
              clear b5 HB y4
              go_wp2_with fail
              exact ⟨⟨k + 1, q + 1, by omega, by omega, by go_num, by go_num, ⟨_, rfl⟩, ⟨_, rfl⟩, QN, B5⟩, by simp [intOf]; omega⟩
            · have HM1 := Lib.hid hm
              have g1 := N2.out hm
              have QN : Hid (q = (refersL ((cts l).take (k + 1)) id).length) := Lib.hid (by rw [TK.out, List.length_append, ← QE.out]; simp [HM1.out])
              have dh : decide (id ∈ y.c.refs) = false := decide_eq_false hm
              rw [dh] at HB
              by_cases hq : q < (refersL (cts l) id).length
              · have dq2 : (q : Int) < (rn : Int) := by rw [HRN.out]; omega
                obtain ⟨b6, o6, rfl, hb6, f0⟩ := strs_at (R6.out.below BY.out) hq
                have ne : (refersL (cts l) id)[q] ≠ y.c.id := fun e => g1 (by rw [List.getElem?_eq_getElem hq, e])
                generalize (refersL (cts l) id)[q] = s2 at *
                have t2 := mkB_tl s2
                have ne2 : (s2 == y.c.id) = false := by simpa using ne
                clear g1 hq hm dh N1 N2 ne
                go_quiet (fail)
                have YX2 := Lib.hid (show (y1.drewN nq).heap[wr.heap.size]? = _ from YX.out)
                have BY2 : Hid (Below wr.heap.size wr (y1.drewN nq)) := Lib.hid (below_drewN BY.out nq)
                clear y0 f0 YX BY
                generalize y1.drewN nq = y2 at *
                have y4 := cell_of_row y2 wr.heap.size 4 _ _ _ YX2.out
                simp at y4
                go_wp2_with fail
                refine (HB.out _ BY2.out).mono ?_
                rintro e u5 ⟨rfl, b5⟩
                have B5 := Lib.hid (BL.out.trans (Below.mono (BY2.out.trans (Below.mono b5 BY2.out.size)) BL.out.size))
                clear b5 HB y4
                go_wp2_with fail
                exact ⟨⟨k + 1, q, by omega, by omega, by go_num, rfl, ⟨_, rfl⟩, ⟨_, rfl⟩, QN, B5⟩, by simp [intOf]; omega⟩
              · have dq2 : ¬ (q : Int) < (rn : Int) := by rw [HRN.out]; omega
                have dq3 : decide ((q : Int) < (rn : Int)) = false := decide_eq_false dq2
                clear g1 hq hm dh N1 N2
                go_quiet (fail)
                have YX2 := Lib.hid (show (y1.drewN nq).heap[wr.heap.size]? = _ from YX.out)
                have BY2 : Hid (Below wr.heap.size wr (y1.drewN nq)) := Lib.hid (below_drewN BY.out nq)
                clear y0 YX BY
                generalize y1.drewN nq = y2 at *
                have y4 := cell_of_row y2 wr.heap.size 4 _ _ _ YX2.out
                simp at y4
                go_wp2_with fail
                refine (HB.out _ BY2.out).mono ?_
                rintro e u5 ⟨rfl, b5⟩
                have B5 := Lib.hid (BL.out.trans (Below.mono (BY2.out.trans (Below.mono b5 BY2.out.size)) BL.out.size))
                clear b5 HB y4
                go_wp2_with fail
                exact ⟨⟨k + 1, q, by omega, by omega, by go_num, rfl, ⟨_, rfl⟩, ⟨_, rfl⟩, QN, B5⟩, by simp [intOf]; omega⟩
          · have d1 : ¬ (k : Int) < (n : Int) := by omega
            obtain rfl : q = rn := by rw [QE.out, HRN.out, List.take_of_length_le (by rw [cts_len, ← HN.out]; omega)]
            have PT := Lib.hid (points_any A n c l id wr HN.out MR.out)
            clear MR BW R6 QE
            cases hL : At.look (cts l) id with
            | none =>
              have FN := find_none hL
              rw [points_none HV.out hL] at PT
              go_wp2_with fail
              refine PT.out.mono ?_
              rintro e u5 ⟨A7, c7, rfl, r7, b5⟩
              have B5 := Lib.hid (BL.out.trans (Below.mono b5 BL.out.size))
              obtain ⟨k0, M5, -, -⟩ := E2.out u5 B5.out
              have FD := Lib.hid (afind_any A n c l id u5 HN.out M5)
              rw [FN] at FD
              have R7 := Lib.hid r7
              clear M5 b5 r7 PT
              go_wp2_with fail
              refine FD.out.mono ?_
              rintro e u6 ⟨rfl, b6⟩
              have B6 := Lib.hid (B5.out.trans (Below.mono b6 B5.out.size))
              have R7 := Lib.hid (R7.out.below b6)
              obtain ⟨k0, M6, bw6, -⟩ := E2.out u6 B6.out
              have M6 := Lib.hid M6
              have BW6 := Lib.hid bw6
              clear b6 B5 FD bw6
              go_wp2_with fail
              go_ret
              exact ⟨rfl, BW6.out⟩
            | some z =>
              obtain ⟨hp, hz, hf⟩ := find_some HS.out hL
              have hpl : At.pos (cts l) id < l.length := by rwa [cts_len] at hp
              have hzl : l[At.pos (cts l) id].c = z := by rw [← hz]; simp [cts]
              generalize At.pos (cts l) id = p at *
              have hpn : p < n := by rw [HN.out]; exact hpl
              have i1 : (0 : Int) ≤ (p : Int) := by omega
              have i2 : (p : Int) < (n : Int) := by omega
              have hk1d := Classical.em (z.kind = 1)
              rcases hk1d with hk1 | hk1
              · skip
                rw [points_node HV.out hL hk1] at PT
                go_wp2_with fail
                refine PT.out.mono ?_
                rintro e u5 ⟨A7, c7, rfl, r7, b5⟩
                have B5 := Lib.hid (BL.out.trans (Below.mono b5 BL.out.size))
                obtain ⟨k0, M5, -, -⟩ := E2.out u5 B5.out
                have FD := Lib.hid (afind_any A n c l id u5 HN.out M5)
                rw [hf] at FD
                have R7 := Lib.hid r7
                clear M5 b5 r7 PT
                go_wp2_with fail
                refine FD.out.mono ?_
                rintro e u6 ⟨rfl, b6⟩
                have B6 := Lib.hid (B5.out.trans (Below.mono b6 B5.out.size))
                have R7 := Lib.hid (R7.out.below b6)
                obtain ⟨k0, M6, bw6, -⟩ := E2.out u6 B6.out
                have M6 := Lib.hid M6
                have BW6 := Lib.hid bw6
                clear b6 B5 FD bw6
                obtain ⟨b, off, rfl, hb, e0, e1, e2, e3, e4, e5⟩ := ros_at M6.out.rd hpl
                have HO := M6.out.ob l[p] (List.getElem_mem hpl)
                rw [hzl] at e0 e1 e2 e3
                generalize hy : l[p] = y at *
                obtain ⟨B1, r1, v1, rr1⟩ := HO.rs
                obtain ⟨B2, r2, v2, -⟩ := HO.ts
                rw [v1, hzl] at e4
                rw [v2, hzl] at e5
                rw [hzl] at rr1
                have RR := Lib.hid rr1
                clear HO v1 v2 rr1 hy
                rw [hk1] at e1
                go_upto_region 21 with fail
                obtain ⟨y1, hy1⟩ : ∃ y1, y1 = u6.alloc (.cells #[.string (mkB z.id), .int .i64 1, .int .i64 z.x, .int .i64 z.y, .slice B1 z.refs.length r1, .slice B2 z.tags.length r2] 43) := ⟨_, rfl⟩
                rw [← hy1]
                have BY : Hid (Below u6.heap.size u6 y1) := Lib.hid (by rw [hy1]; exact (Below.refl _ _).alloc (Nat.le_refl _) _)
                have YX : y1.heap[u6.heap.size]? = some (.cells #[.string (mkB z.id), .int .i64 1, .int .i64 z.x, .int .i64 z.y, .slice B1 z.refs.length r1, .slice B2 z.tags.length r2] 43 (0, 0)) := by rw [hy1]; exact heap_alloc_new u6 _
                have y2 := cell_of_row y1 u6.heap.size 2 _ _ _ YX
                have y3 := cell_of_row y1 u6.heap.size 3 _ _ _ YX
                simp at y2 y3
                obtain ⟨b7, o7, rfl, hb7, f0, f1⟩ := pts_at (l := [(z.x, z.y)]) (R7.out.below BY.out) (k := 0) (by simp)
                simp only [Nat.zero_mul, Nat.add_zero, List.getElem_cons_zero] at f0 f1
                clear hy1 YX e0 e1 e2 e3 e4 e5 k0
                go_quiet (fail)
                go_wp2_with fail
                go_ret
                exact ⟨rfl, below_drewN (BW6.out.trans (Below.mono BY.out BW6.out.size)) nq⟩
              · have hk2 : (z.kind == 1) = false := by simpa using hk1
                rcases points_some HV.out hL hk1 with ⟨kk, hkk, pe⟩ | ⟨PP, pe, pf⟩
                · have g1 : ((kk : Int) != 0) = true := by rcases hkk with rfl | rfl <;> rfl
                  have g2 : ((kk : Int) == 11) = false := by rcases hkk with rfl | rfl <;> rfl
                  rw [pe] at PT
                  go_wp2_with fail
                  refine PT.out.mono ?_
                  rintro e u5 ⟨A7, c7, rfl, r7, b5⟩
                  have B5 := Lib.hid (BL.out.trans (Below.mono b5 BL.out.size))
                  obtain ⟨k0, M5, -, -⟩ := E2.out u5 B5.out
                  have FD := Lib.hid (afind_any A n c l id u5 HN.out M5)
                  rw [hf] at FD
                  have R7 := Lib.hid r7
                  clear M5 b5 r7 PT
                  go_wp2_with fail
                  refine FD.out.mono ?_
                  rintro e u6 ⟨rfl, b6⟩
                  have B6 := Lib.hid (B5.out.trans (Below.mono b6 B5.out.size))
                  have R7 := Lib.hid (R7.out.below b6)
                  obtain ⟨k0, M6, bw6, -⟩ := E2.out u6 B6.out
                  have M6 := Lib.hid M6
                  have BW6 := Lib.hid bw6
                  clear b6 B5 FD bw6
                  clear hkk
                  go_wp2_with fail
                  go_ret
                  exact ⟨rfl, BW6.out⟩
                · obtain ⟨pl, ps⟩ := ptsF_spec pf
                  rw [pe] at PT
                  go_wp2_with fail
                  refine PT.out.mono ?_
                  rintro e u5 ⟨A7, c7, rfl, r7, b5⟩
                  have B5 := Lib.hid (BL.out.trans (Below.mono b5 BL.out.size))
                  obtain ⟨k0, M5, -, -⟩ := E2.out u5 B5.out
                  have FD := Lib.hid (afind_any A n c l id u5 HN.out M5)
                  rw [hf] at FD
                  have R7 := Lib.hid r7
                  clear M5 b5 r7 PT
                  go_wp2_with fail
                  refine FD.out.mono ?_
                  rintro e u6 ⟨rfl, b6⟩
                  have B6 := Lib.hid (B5.out.trans (Below.mono b6 B5.out.size))
                  have R7 := Lib.hid (R7.out.below b6)
                  obtain ⟨k0, M6, bw6, -⟩ := E2.out u6 B6.out
                  have M6 := Lib.hid M6
                  have BW6 := Lib.hid bw6
                  clear b6 B5 FD bw6
                  have PS := Lib.hid ps
                  have zr : z.refs.length ≤ 100000 := by have := (M6.out.sz l[p] (List.getElem_mem hpl)).2; rwa [hzl] at this
                  have PL := Lib.hid pl
                  clear ps pl pf pe
                  obtain ⟨b, off, rfl, hb, e0, e1, e2, e3, e4, e5⟩ := ros_at M6.out.rd hpl
                  have HO := M6.out.ob l[p] (List.getElem_mem hpl)
                  rw [hzl] at e0 e1 e2 e3
                  generalize hy : l[p] = y at *
                  obtain ⟨B1, r1, v1, rr1⟩ := HO.rs
                  obtain ⟨B2, r2, v2, -⟩ := HO.ts
                  rw [v1, hzl] at e4
                  rw [v2, hzl] at e5
                  rw [hzl] at rr1
                  have RR := Lib.hid rr1
                  clear HO v1 v2 rr1 hy
                  obtain ⟨m, hm⟩ : ∃ m, m = z.refs.length := ⟨_, rfl⟩
                  have HMM := Lib.hid hm
                  rw [← hm] at e4 zr ⊢
                  clear hm
                  obtain ⟨y1, hy1⟩ : ∃ y1, y1 = u6.alloc (.cells #[.string (mkB z.id), .int .i64 z.kind, .int .i64 z.x, .int .i64 z.y, .slice B1 m r1, .slice B2 z.tags.length r2] 43) := ⟨_, rfl⟩
                  have BY : Below u6.heap.size u6 y1 := by rw [hy1]; exact (Below.refl _ _).alloc (Nat.le_refl _) _
                  have YX : y1.heap[u6.heap.size]? = some (.cells #[.string (mkB z.id), .int .i64 z.kind, .int .i64 z.x, .int .i64 z.y, .slice B1 m r1, .slice B2 z.tags.length r2] 43 (0, 0)) := by rw [hy1]; exact heap_alloc_new u6 _
                  have yz : u6.heap.size < y1.heap.size := by rw [hy1]; simp
                  have E3 : Hid (∀ u, Below y1.heap.size y1 u → u.cell? ⟨w.heap.size, 0, none⟩ = some (.slice (some ⟨b, off, none⟩) n c) ∧ Ms u (some ⟨b, off, none⟩) l ∧ Below w.heap.size w u ∧ u.cell? ⟨u6.heap.size, 3 + 1, none⟩ = some (.slice B1 m r1) ∧ Rd u B1 (strsC z.refs) ∧ Rd u A7 (ptsC PP)) := Lib.hid (fun u hu => by
                    have h6 := BY.trans (Below.mono hu BY.size)
                    obtain ⟨q1, q2, q3, -⟩ := E2.out u (B6.out.trans (Below.mono h6 B6.out.size))
                    refine ⟨q1, q2, q3, ?_, RR.out.below h6, R7.out.below h6⟩
                    have := cell_of_row u u6.heap.size 4 _ _ _ ((hu.block _ yz).trans YX)
                    simpa using this)
                  have BB : Hid (Below y1.heap.size y1 y1) := Lib.hid (Below.refl _ _)
                  have yz6 := cell_of_row y1 u6.heap.size 4 _ _ _ YX
                  have yk := cell_of_row y1 u6.heap.size 1 _ _ _ YX
                  simp at yz6 yk
                  go_upto_region 20 with fail
                  rw [← hy1]
                  clear hy1 BY YX e0 e1 e2 e3 e4 e5 k0
                  go_upto_region 25 with fail
                  clear yz6 yk
                  go_loopw [15, 16, 17] (fun s15 s16 s17 wr => ∃ i : Nat, i ≤ m ∧ s15 = .int .i64 (i : Int) ∧ (∃ p, s16 = p) ∧ (∃ p, s17 = p) ∧ Hid (Below y1.heap.size y1 wr)) (fun i _ _ _ => m - (intOf i).toNat)
                  case atStart => exact ⟨0, Nat.zero_le _, rfl, ⟨_, rfl⟩, ⟨_, rfl⟩, BB⟩
                  case round =>
                    clear BB
                    obtain ⟨i, hi, rfl, ⟨p16, rfl⟩, ⟨p17, rfl⟩, BI⟩ := hrel
                    obtain ⟨k0, M8, bw8, k4, R8, R9⟩ := E3.out wr BI.out
                    have BW8 := Lib.hid bw8
                    by_cases hli : i < m
                    · have hir : i < z.refs.length := by rw [← HMM.out]; exact hli
                      have l1 : (i : Int) < (m : Int) := by omega
                      have l2 : (0 : Int) ≤ (i : Int) := by omega
                      obtain ⟨z8, a1, a2, a3⟩ := PS.out i hir
                      obtain ⟨b8, o8, rfl, hb8, f0⟩ := strs_at R8 hir
                      have hip : i < PP.length := by rw [PL.out]; exact hir
                      have PC := Lib.hid (fun (u : World) (hu : OldB wr u) => points_any (some ⟨b, off, none⟩) n c l z.refs[i] u HN.out (M8.below hu))
                      rw [points_node HV.out a1 a2] at PC
                      have GP : PP[i] = (z8.x, z8.y) := by rw [List.getElem?_eq_getElem hip] at a3; exact Option.some.inj a3
                      obtain ⟨b7, o7, rfl, hb7, f1, f2⟩ := pts_at R9 hip
                      rw [GP] at f1 f2
                      generalize z.refs[i] = rs at *
                      have lw : w.heap.size < wr.heap.size := lt_of_cell' k0
                      have l6 : u6.heap.size < wr.heap.size := lt_of_cell' k4
                      have KK : ∀ {a : Addr} {v : Value}, a.block < wr.heap.size → wr.cell? a = some v → ∀ u, OldB wr u → u.cell? a = some v := fun hp hc u hu => (World.cell?_of_block (w := wr) (hu.block _ hp)).trans hc
                      have K0 := KK (a := ⟨w.heap.size, 0, none⟩) lw k0
                      have K4 := KK (a := ⟨u6.heap.size, 3 + 1, none⟩) l6 k4
                      have F0 := KK (a := ⟨b8, _, none⟩) hb8 f0
                      have F1 := Lib.hid (KK (a := ⟨b7, _, none⟩) hb7 f1)
                      have F2 := Lib.hid (KK (a := ⟨b7, _, none⟩) hb7 f2)
                      have LP := Lib.hid (show (i : Int) < (m : Int) from l1)
                      clear KK f0 f1 f2 M8 bw8 R8 R9 a1 a2 a3 GP k4
                      go_upto_region 27 with fail
                      clear k0
                      (refine wp_region_noPanic ?_; refine wp_region_held_drew (S := (OldB wr)) (by kernel_rfl) ?_ (fun hHeld => ?_); exact Below.drew (Below.refl _ _))
                      (refine wpAnyH_take (i := 0) (oi := _) (v := ?_) rfl (by kernel_rfl) (by kernel_rfl) (by kernel_rfl) (fun _ _ _ h => h) (Or.inl ⟨?_, ?_⟩) (by assumption) ?_; rotate_left; (focus (first | rfl | (simp [Region.wanted, yielded]; done))); (focus (intro w hSw; (try dsimp only at hSw); go_simp; all_goals (with_reducible rfl))); try simp only [Act.put, List.getElem_toArray, List.getElem_cons_zero, List.getElem_cons_succ, List.setIfInBounds_toArray, List.set_cons_zero, List.set_cons_succ])
                      (refine wpAnyH_take (i := 1) (oi := _) (v := ?_) rfl (by kernel_rfl) (by kernel_rfl) (by kernel_rfl) (fun _ _ _ h => h) (Or.inl ⟨?_, ?_⟩) (by assumption) ?_; rotate_left; (focus (first | rfl | (simp [Region.wanted, yielded]; done))); (focus (intro w hSw; (try dsimp only at hSw); go_simp; all_goals (with_reducible rfl))); try simp only [Act.put, List.getElem_toArray, List.getElem_cons_zero, List.getElem_cons_succ, List.setIfInBounds_toArray, List.set_cons_zero, List.set_cons_succ])
                      (refine wpAnyH_take (i := 2) (oi := _) (v := ?_) rfl (by kernel_rfl) (by kernel_rfl) (by kernel_rfl) (fun _ _ _ h => h) (Or.inl ⟨?_, ?_⟩) (by assumption) ?_; rotate_left; (focus (first | rfl | (simp [Region.wanted, yielded]; done))); (focus (intro w hSw; (try dsimp only at hSw); go_simp; all_goals (with_reducible rfl))); try simp only [Act.put, List.getElem_toArray, List.getElem_cons_zero, List.getElem_cons_succ, List.setIfInBounds_toArray, List.set_cons_zero, List.set_cons_succ])
                      (refine wpAnyH_take (i := 3) (oi := _) (v := ?_) rfl (by kernel_rfl) (by kernel_rfl) (by kernel_rfl) (fun _ _ _ h => h) (Or.inl ⟨?_, ?_⟩) (by assumption) ?_; rotate_left; (focus (first | rfl | (simp [Region.wanted, yielded]; done))); (focus (intro w hSw; (try dsimp only at hSw); go_simp; all_goals (with_reducible rfl))); try simp only [Act.put, List.getElem_toArray, List.getElem_cons_zero, List.getElem_cons_succ, List.setIfInBounds_toArray, List.set_cons_zero, List.set_cons_succ])
                      (refine wpAnyH_take (i := 4) (oi := _) (v := ?_) rfl (by kernel_rfl) (by kernel_rfl) (by kernel_rfl) (fun _ _ _ h => h) (Or.inl ⟨?_, ?_⟩) (by assumption) ?_; rotate_left; (focus (first | rfl | (simp [Region.wanted, yielded]; done))); (focus (intro w hSw; (try dsimp only at hSw); go_simp; all_goals (with_reducible rfl))); try simp only [Act.put, List.getElem_toArray, List.getElem_cons_zero, List.getElem_cons_succ, List.setIfInBounds_toArray, List.set_cons_zero, List.set_cons_succ])
                      (refine wpAnyH_take (i := 5) (oi := _) (v := ?_) rfl (by kernel_rfl) (by kernel_rfl) (by kernel_rfl) (fun _ _ _ h => h) (Or.inl ⟨?_, ?_⟩) (by assumption) ?_; rotate_left; (focus (first | rfl | (simp [Region.wanted, yielded]; done))); (focus (intro w hSw; (try dsimp only at hSw); go_simp; all_goals (with_reducible rfl))); try simp only [Act.put, List.getElem_toArray, List.getElem_cons_zero, List.getElem_cons_succ, List.setIfInBounds_toArray, List.set_cons_zero, List.set_cons_succ])
                      (refine wpAnyH_ready (rs := [6]) (by kernel_rfl) (by simp) ?_; refine AllReadyH.cons (o := _) rfl (fun K hK => ?_) AllReadyH.nil; go_simp)
                      refine (PC.out _ hHeld).mono ?_
                      rintro e u7 ⟨A10, c10, rfl, r10, b10⟩
                      (refine hK.out _ _ (OldB.then hHeld b10) (fun hHeld2 => ?_); clear hK K hHeld; have hHeld := hHeld2; clear hHeld2; try simp only [Act.put, List.getElem_toArray, List.getElem_cons_zero, List.getElem_cons_succ, List.setIfInBounds_toArray, List.set_cons_zero, List.set_cons_succ])
                      (refine wpAnyH_take (i := 7) (oi := _) (v := ?_) rfl (by kernel_rfl) (by kernel_rfl) (by kernel_rfl) (fun _ _ _ h => h) (Or.inl ⟨?_, ?_⟩) (by assumption) ?_; rotate_left; (focus (first | rfl | (simp [Region.wanted, yielded]; done))); (focus (intro w hSw; (try dsimp only at hSw); go_simp; all_goals (with_reducible rfl))); try simp only [Act.put, List.getElem_toArray, List.getElem_cons_zero, List.getElem_cons_succ, List.setIfInBounds_toArray, List.set_cons_zero, List.set_cons_succ])
                      (refine wpAnyH_take (i := 8) (oi := _) (v := ?_) rfl (by kernel_rfl) (by kernel_rfl) (by kernel_rfl) (fun _ _ _ h => h) (Or.inl ⟨?_, ?_⟩) (by assumption) ?_; rotate_left; (focus (first | rfl | (simp [Region.wanted, yielded]; done))); (focus (intro w hSw; (try dsimp only at hSw); go_simp; all_goals (with_reducible rfl))); try simp only [Act.put, List.getElem_toArray, List.getElem_cons_zero, List.getElem_cons_succ, List.setIfInBounds_toArray, List.set_cons_zero, List.set_cons_succ])
                      (refine wpAnyH_take (i := 9) (oi := _) (v := ?_) rfl (by kernel_rfl) (by kernel_rfl) (by kernel_rfl) (fun _ _ _ h => h) (Or.inl ⟨?_, ?_⟩) (by assumption) ?_; rotate_left; (focus (first | rfl | (simp [Region.wanted, yielded]; done))); (focus (intro w hSw; (try dsimp only at hSw); go_simp; all_goals (with_reducible rfl))); try simp only [Act.put, List.getElem_toArray, List.getElem_cons_zero, List.getElem_cons_succ, List.setIfInBounds_toArray, List.set_cons_zero, List.set_cons_succ])
                      (refine wpAnyH_take (i := 10) (oi := _) (v := ?_) rfl (by kernel_rfl) (by kernel_rfl) (by kernel_rfl) (fun _ _ _ h => h) (Or.inl ⟨?_, ?_⟩) (by assumption) ?_; rotate_left; (focus (first | rfl | (simp [Region.wanted, yielded]; done))); (focus (intro w hSw; (try dsimp only at hSw); go_simp; all_goals (with_reducible rfl))); try simp only [Act.put, List.getElem_toArray, List.getElem_cons_zero, List.getElem_cons_succ, List.setIfInBounds_toArray, List.set_cons_zero, List.set_cons_succ])
                      (refine wpAnyH_take (i := 11) (oi := _) (v := ?_) rfl (by kernel_rfl) (by kernel_rfl) (by kernel_rfl) (fun _ _ _ h => h) (Or.inl ⟨?_, ?_⟩) (by assumption) ?_; rotate_left; (focus (first | rfl | (simp [Region.wanted, yielded]; done))); (focus (intro w hSw; (try dsimp only at hSw); go_simp; all_goals (with_reducible rfl))); try simp only [Act.put, List.getElem_toArray, List.getElem_cons_zero, List.getElem_cons_succ, List.setIfInBounds_toArray, List.set_cons_zero, List.set_cons_succ])
                      have OW := Lib.hid hHeld
                      (refine wpAnyH_done (by kernel_rfl) ?_ _; refine NoPanic.normal ?_)
                      obtain ⟨b11, o11, rfl, hb11, g0, g1⟩ := pts_at (l := [(z8.x, z8.y)]) r10 (k := 0) (by simp)
                      simp only [Nat.zero_mul, Nat.add_zero, List.getElem_cons_zero] at g0 g1
                      have h1 := F1.out u7 OW.out
                      have h2 := F2.out u7 OW.out
                      clear hHeld r10 b10 PC K0 K4 F0
                      go_upto_region 28 with fail
                      go_quiet (fail)
                      go_wp2_with fail
                      exact ⟨⟨i + 1, by omega, by omega, Lib.hid (BI.out.trans (Below.mono (below_drewN OW.out nq) BI.out.size))⟩, by simp [intOf]; omega⟩
                    · have l1 : ¬ (i : Int) < (m : Int) := by omega
                      clear k0 M8 bw8 k4 R8 R9
                      go_wp2_with fail
                      go_ret
                      exact ⟨rfl, BW8.out⟩
end Go.Proofs.YtlejeelmlclnkaaGreatDoor
