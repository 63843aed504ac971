/- WALK: the statement AtlasPuts. -/
import Derived.Test.YtlejeelmlclnkaaGreatDoorDB
import Derived.Test.YtlejeelmlclnkaaGreatDoorAU
import Derived.Test.YtlejeelmlclnkaaGreatDoorOpM
import Derived.Deep.DeepCutAuto
set_option linter.unusedSimpArgs false
set_option linter.unusedVariables false
namespace Go.Proofs.YtlejeelmlclnkaaGreatDoor
open Go.RowKit

theorem few_len4 {l : List RO} (h : fewM (cts l) = true) : l.length ≤ 30 := by
  unfold fewM at h
  rw [Bool.and_eq_true, decide_eq_true_eq, cts_len] at h
  exact h.1
theorem few_one4 {l : List RO} {A : Option Addr} {c : Nat} : allFew [⟨A, c, l⟩] = fewM (cts l) := by simp [allFew]
/-- an element of a list that lies in memory, at all later worlds -/
theorem ms_el {w : World} {A : Option Addr} {l : List RO} (h : Ms w A l) {k : Nat} (hk : k < l.length) {z : At.Ob} (hz : l[k].c = z) : ∃ (y : RO) (b off : Nat) (B1 B2 : Option Addr) (r1 r2 : Nat), y.c = z ∧ A = some ⟨b, off, none⟩ ∧ b < w.heap.size ∧ y.rv = .slice B1 z.refs.length r1 ∧ y.tv = .slice B2 z.tags.length r2 ∧ ObIs w y ∧ (ObSz z ∧ z.refs.length ≤ 100000) ∧
    ∀ f u, ([.string (mkB z.id), .int .i64 z.kind, .int .i64 z.x, .int .i64 z.y, .slice B1 z.refs.length r1, .slice B2 z.tags.length r2] : List Value)[f]? = some u → ∀ v, OldB w v → v.cell? ⟨b, off + k * 6 + f, none⟩ = some u := by
  obtain ⟨b, off, e, hb, e0, e1, e2, e3, e4, e5⟩ := ros_at h.rd hk
  have HO := h.ob l[k] (List.getElem_mem hk)
  have SZ := h.sz l[k] (List.getElem_mem hk)
  obtain ⟨B1, r1, v1, -⟩ := HO.rs
  obtain ⟨B2, r2, v2, -⟩ := HO.ts
  rw [v1] at e4
  rw [v2] at e5
  subst hz
  refine ⟨l[k], b, off, B1, B2, r1, r2, rfl, e, hb, v1, v2, HO, SZ, fun f u hu v hv => ?_⟩
  have K : ∀ {a : Addr} {x : Value}, a.block < w.heap.size → w.cell? a = some x → v.cell? a = some x := fun hp hc => (World.cell?_of_block (w := w) (Below.block hv _ hp)).trans hc
  match f, hu with
  | 0, hu => cases hu; exact K hb e0
  | 1, hu => cases hu; exact K hb e1
  | 2, hu => cases hu; exact K hb e2
  | 3, hu => cases hu; exact K hb e3
  | 4, hu => cases hu; exact K hb e4
  | 5, hu => cases hu; exact K hb e5
  | n + 6, hu => simp at hu
set_option maxHeartbeats 16000000 in
set_option maxRecDepth 100000 in
theorem walk_AtlasPuts (A : Option Addr) (c : Nat) (l : List RO) (o : RO) (s : ByteArray) (w : World) (hc : l.length ≤ c) (hcm : c ≤ 9223372036854775807) (h : Mw w A l) (hO : ObIn w o) (hs : s.size ≤ maxLen) (ht : Tab w) :
    Calls Tryz.prog 8 #[.agg #[.slice A l.length c], roA o, .string s] w fun e w' => e = .returned (.bool true) ∧ Below w.heap.size w w' := by
  obtain ⟨id, rfl⟩ : ∃ id, s = mkB id := ⟨s.data.toList, (mkB_of s).symm⟩
  have HM := Lib.hid h
  have HT := Lib.hid ht
  have HI := Lib.hid hO
  obtain ⟨B1, r1, v1, -⟩ := hO.1.rs
  obtain ⟨B2, r2, v2, -⟩ := hO.1.ts
  have V1 := Lib.hid v1
  have V2 := Lib.hid v2
  obtain ⟨n, hn⟩ : ∃ n, n = l.length := ⟨_, rfl⟩
  have HN := Lib.hid hn
  rw [← hn] at hc ⊢
  have eo : roA o = .agg #[.string (mkB o.c.id), .int .i64 o.c.kind, .int .i64 o.c.x, .int .i64 o.c.y, .slice B1 o.c.refs.length r1, .slice B2 o.c.tags.length r2] := by unfold roA; rw [v1, v2]
  rw [eo]
  obtain ⟨w1, hw1⟩ : ∃ w1, w1 = (w.alloc (.cells #[.slice A n c] 24)).alloc (.cells #[.string (mkB o.c.id), .int .i64 o.c.kind, .int .i64 o.c.x, .int .i64 o.c.y, .slice B1 o.c.refs.length r1, .slice B2 o.c.tags.length r2] 43) := ⟨_, rfl⟩
  have X0 : w1.heap[w.heap.size]? = some (.cells #[.slice A n c] 24 (0, 0)) := by rw [hw1]; exact (alloc_old _ _ (by simp)).trans (heap_alloc_new w _)
  have X1 : w1.heap[w.heap.size + 1]? = some (.cells #[.string (mkB o.c.id), .int .i64 o.c.kind, .int .i64 o.c.x, .int .i64 o.c.y, .slice B1 o.c.refs.length r1, .slice B2 o.c.tags.length r2] 43 (0, 0)) := by rw [hw1]; exact alloc_new' _ _ _ (by simp)
  have BX : Below w.heap.size w w1 := by rw [hw1]; exact ((Below.refl _ _).alloc (Nat.le_refl _) _).alloc (by simp) _
  have z1 : w.heap.size + 1 < w1.heap.size := by rw [hw1]; simp
  have EO : Hid (∀ u, Below w1.heap.size w1 u → ∀ f v, ([.string (mkB o.c.id), .int .i64 o.c.kind, .int .i64 o.c.x, .int .i64 o.c.y, .slice B1 o.c.refs.length r1, .slice B2 o.c.tags.length r2] : List Value)[f]? = some v → u.cell? ⟨w.heap.size + 1, f, none⟩ = some v) := Lib.hid (fun u hu f v hv => (cell_of_row u (w.heap.size + 1) f _ _ _ ((hu.block _ z1).trans X1)).trans (by simpa using hv))
  have ENV : Hid (∀ u, Below w1.heap.size w1 u → u.cell? ⟨w.heap.size, 0, none⟩ = some (.slice A n c) ∧ Mw u A l ∧ ObIs u o ∧ Below w.heap.size w u) := Lib.hid (fun u hu => ⟨by have := cell_of_row u w.heap.size 0 _ _ _ ((hu.block _ (by omega)).trans X0); simpa using this, HM.out.below (BX.trans (Below.mono hu BX.size)), HI.out.1.below (BX.trans (Below.mono hu BX.size)), BX.trans (Below.mono hu BX.size)⟩)
  have HD := Lib.hid (head_any w1 (HT.out.keep BX))
  clear h ht hn X0 X1 hO v1 v2 eo
  go_enter Tryz.func8, Tryz.ntmps8
  go_wp2_with fail
  rw [← hw1]
  clear hw1 BX
  refine HD.out.mono ?_
  rintro e u1 ⟨rfl, b1⟩
  obtain ⟨k0, m1, -, bw1⟩ := ENV.out u1 b1
  obtain ⟨x1, hx1'⟩ : ∃ x1, x1 = u1.alloc (.cells #[.slice A n c] 24) := ⟨_, rfl⟩
  have bx1 : Below u1.heap.size u1 x1 := by rw [hx1']; exact (Below.refl _ _).alloc (Nat.le_refl _) _
  have FW := Lib.hid (few_any (some ⟨u1.heap.size, 0, none⟩) 1 1 [⟨A, c, l⟩] x1 rfl (by decide) (by rw [hx1', HN.out]; exact Rd.of_row (heap_alloc_new u1 _) (List.prefix_refl _)) (fun m hm => by rw [List.mem_singleton.1 hm]; exact ⟨m1.below bx1, by show l.length ≤ _; rw [← HN.out]; omega⟩))
  rw [few_one4] at FW
  have B1' := Lib.hid (b1.trans (Below.mono bx1 b1.size))
  clear m1 bw1 b1 HD
  go_wp2_with fail
  rw [← hx1']
  clear hx1' bx1 k0
  refine FW.out.mono ?_
  rintro e u2 ⟨rfl, b2⟩
  have B2' := Lib.hid (B1'.out.trans (Below.mono b2 B1'.out.size))
  obtain ⟨k0, m2, o2, bw2⟩ := ENV.out u2 B2'.out
  have BW2 := Lib.hid bw2
  have M2 := Lib.hid m2
  have O2 := Lib.hid o2
  clear b2 B1' FW bw2 m2 o2
  cases hf : fewM (cts l)
  · go_wp2_with fail
    go_ret
    exact ⟨rfl, BW2.out⟩
  · have MS := Lib.hid (M2.out.ms hf)
    have hl : n ≤ 30 := by rw [HN.out]; exact few_len4 hf
    have FO := Lib.hid (fewo_any o u2 O2.out HI.out.2.1)
    unfold roA at FO
    rw [V1.out, V2.out] at FO
    have c0 := EO.out u2 B2'.out 0 _ rfl
    have c1 := EO.out u2 B2'.out 1 _ rfl
    have c2 := EO.out u2 B2'.out 2 _ rfl
    have c3 := EO.out u2 B2'.out 3 _ rfl
    have c4 := EO.out u2 B2'.out 4 _ rfl
    have c5 := EO.out u2 B2'.out 5 _ rfl
    clear hf
    go_wp2_with fail
    refine FO.out.mono ?_
    rintro e u3 ⟨rfl, b3⟩
    have B3 := Lib.hid (B2'.out.trans (Below.mono b3 B2'.out.size))
    have MS := Lib.hid (MS.out.below b3)
    obtain ⟨k0, -, -, bw3⟩ := ENV.out u3 B3.out
    have BW3 := Lib.hid bw3
    clear b3 B2' FO bw3 M2 O2 BW2 c0 c1 c2 c3 c4 c5
    cases hfo : fewO o.c
    · go_wp2_with fail
      go_ret
      exact ⟨rfl, BW3.out⟩
    · have SZ := Lib.hid (few_sz hfo HI.out.2.1)
      clear hfo
      by_cases h3 : (300 : Int) < ((mkB id).size : Int)
      · go_wp2_with fail
        go_ret
        exact ⟨rfl, BW3.out⟩
      · have h4 : decide ((300 : Int) < ((mkB id).size : Int)) = false := decide_eq_false h3
        have E2 : Hid (∀ u, OldB u3 u → u.cell? ⟨w.heap.size, 0, none⟩ = some (.slice A n c) ∧ Ms u A l ∧ ObIs u o ∧ Below w.heap.size w u) := Lib.hid (fun u hu => by
          have hb := B3.out.trans (Below.mono hu B3.out.size)
          obtain ⟨q1, -, q3, q4⟩ := ENV.out u hb
          exact ⟨q1, MS.out.below hu, q3, q4⟩)
        have EO : Hid (∀ u, OldB u3 u → ∀ f v, ([.string (mkB o.c.id), .int .i64 o.c.kind, .int .i64 o.c.x, .int .i64 o.c.y, .slice B1 o.c.refs.length r1, .slice B2 o.c.tags.length r2] : List Value)[f]? = some v → u.cell? ⟨w.heap.size + 1, f, none⟩ = some v) := Lib.hid (fun u hu => EO.out u (B3.out.trans (Below.mono hu B3.out.size)))
        have PU := Lib.hid (fun (u : World) (hu : OldB u3 u) => put_any A n c l o u HN.out (by omega) (MS.out.below hu) (E2.out u hu).2.2.1 SZ.out)
        unfold roA at PU
        rw [V1.out, V2.out] at PU
        have R3 : OldB u3 u3 := Below.refl _ _
        have c0 := EO.out u3 R3 0 _ rfl
        have c1 := EO.out u3 R3 1 _ rfl
        have c2 := EO.out u3 R3 2 _ rfl
        have c3 := EO.out u3 R3 3 _ rfl
        have c4 := EO.out u3 R3 4 _ rfl
        have c5 := EO.out u3 R3 5 _ rfl
        go_upto_region 4 with fail
        clear h3 h4
        go_wp2_with fail
        refine (PU.out u3 R3).mono ?_
        clear c0 c1 c2 c3 c4 c5 R3 k0
        cases hv : (At.validM (cts l) && At.validO o.c)
        · have e1 : putM (cts l) o.c = ([], 1) := by unfold putM; rw [hv]; rfl
          rw [e1]
          rintro e u4 ⟨A4, c4, R4, rfl, -, -, -, b4⟩
          have b4' := b4.alloc b4.size (.cells #[.slice A4 R4.length c4] 24)
          have B4 := Lib.hid (show OldB u3 _ from b4')
          clear b4 b4' PU e1
          go_upto_region 6 with fail
          generalize u4.alloc (.cells #[.slice A4 R4.length c4] 24) = w4 at *
          obtain ⟨k0, M4, O4, -⟩ := E2.out w4 B4.out
          have VD := Lib.hid (avalid_any A c l n w4 HN.out M4)
          clear M4 O4
          go_wp2_with fail
          refine VD.out.mono ?_
          rintro e u5 ⟨rfl, b5⟩
          have B5 := Lib.hid (B4.out.then b5)
          obtain ⟨-, -, O5, bw5⟩ := E2.out u5 B5.out
          have BW5 := Lib.hid bw5
          clear b5 VD bw5 k0
          cases hV : At.validM (cts l)
          · go_wp2_with fail
            go_ret
            exact ⟨rfl, BW5.out⟩
          · rw [hV] at hv
            have VO := Lib.hid (valid_any o u5 O5 SZ.out.1 SZ.out.2)
            rw [show At.validO o.c = false from hv] at VO
            unfold roA at VO
            rw [V1.out, V2.out] at VO
            have c0 := EO.out u5 B5.out 0 _ rfl
            have c1 := EO.out u5 B5.out 1 _ rfl
            have c2 := EO.out u5 B5.out 2 _ rfl
            have c3 := EO.out u5 B5.out 3 _ rfl
            have c4 := EO.out u5 B5.out 4 _ rfl
            have c5 := EO.out u5 B5.out 5 _ rfl
            clear hv O5
            go_wp2_with fail
            refine VO.out.mono ?_
            rintro e u6 ⟨rfl, b6⟩
            have BZ := Lib.hid (BW5.out.trans (Below.mono b6 BW5.out.size))
            clear b6
            go_wp2_with fail
            go_ret
            exact ⟨rfl, BZ.out⟩
        · rw [Bool.and_eq_true] at hv
          have HV := Lib.hid hv.1
          have HVO := Lib.hid hv.2
          rw [putM_ok hv.1 hv.2]
          clear hv PU
          rintro e u4 h4
          obtain ⟨A4, c4, R4, rfl, M4, E4, C4, b4⟩ := mapE_ok h4
          have L4 := Lib.hid (Live.new M4 C4)
          have E4 := Lib.hid E4
          have b4' := b4.alloc b4.size (.cells #[.slice A4 R4.length c4] 24)
          have B4 := Lib.hid (show OldB u3 _ from b4')
          clear h4 M4 C4 b4 b4'
          go_upto_region 7 with fail
          generalize u4.alloc (.cells #[.slice A4 R4.length c4] 24) = w4 at *
          generalize u4.heap.size = g4 at *
          have XS := Lib.hid (At.srt_put (At.validM_iff.1 HV.out).1 o.c)
          obtain ⟨hpx, hxz, hxf⟩ := find_some XS.out (look_putF (At.validM_iff.1 HV.out).1 o.c)
          generalize At.pos (At.putF (cts l) o.c) o.c.id = pX at *
          rw [← E4.out] at hxf
          have hpr : pX < R4.length := by rw [← cts_len R4, E4.out]; exact hpx
          have hrz : R4[pX].c = o.c := by
            have h1 : (cts R4)[pX]? = some o.c := by rw [E4.out, List.getElem?_eq_getElem hpx, hxz]
            rw [cts_get R4 hpr] at h1
            exact Option.some.inj h1
          have HRZ := Lib.hid hrz
          have F1 := Lib.hid (fun (u : World) (hu : OldB w4 u) => afind_any A4 R4.length c4 R4 o.c.id u rfl (L4.out.below hu).ms)
          rw [hxf] at F1
          have B43 : ∀ u, OldB w4 u → OldB u3 u := fun u hu => Below.trans B4.out (Below.mono hu (Below.size B4.out))
          have F2 := Lib.hid (fun (u : World) (hu : OldB w4 u) => afind_any A n c l o.c.id u HN.out (E2.out u (B43 u hu)).2.1)
          have F3 := Lib.hid (fun (u : World) (hu : OldB w4 u) => afind_any A n c l id u HN.out (E2.out u (B43 u hu)).2.1)
          obtain ⟨kI, hkI⟩ : ∃ kI, kI = findR (cts l) o.c.id := ⟨_, rfl⟩
          obtain ⟨nI, hnI⟩ : ∃ nI, nI = findR (cts l) id := ⟨_, rfl⟩
          have KI := Lib.hid hkI
          have NI := Lib.hid hnI
          rw [← hkI] at F2
          rw [← hnI] at F3
          have K0 : ∀ u, OldB w4 u → u.cell? ⟨w.heap.size, 0, none⟩ = some (.slice A n c) := fun u hu => (E2.out u (B43 u hu)).1
          have K8 : ∀ u, OldB w4 u → u.cell? ⟨g4, 0, none⟩ = some (.slice A4 R4.length c4) := fun u hu => (L4.out.below hu).cell
          have KD : ∀ u, OldB w4 u → u.cell? ⟨w.heap.size + 1, 0, none⟩ = some (.string (mkB o.c.id)) := fun u hu => EO.out u (B43 u hu) 0 _ rfl
          have BB43 := Lib.hid B43
          clear hkI hnI hxz hpx hxf hrz B43
          (refine wp_region_noPanic ?_; refine wp_region_held_drew (S := (OldB w4)) (by kernel_rfl) ?_ (fun hHeld => ?_); exact Below.drew (Below.refl _ _))
          (refine wpAnyH_take (i := 0) (oi := _) (v := ?_) rfl (by kernel_rfl) (by kernel_rfl) (by kernel_rfl) (fun _ _ _ h => h) (Or.inl ⟨?_, ?_⟩) (by assumption) ?_; rotate_left; (focus (first | rfl | (simp [Region.wanted, yielded]; done))); (focus (intro w hSw; (try dsimp only at hSw); go_simp; all_goals (with_reducible rfl))); try simp only [Act.put, List.getElem_toArray, List.getElem_cons_zero, List.getElem_cons_succ, List.setIfInBounds_toArray, List.set_cons_zero, List.set_cons_succ])
          (refine wpAnyH_take (i := 1) (oi := _) (v := ?_) rfl (by kernel_rfl) (by kernel_rfl) (by kernel_rfl) (fun _ _ _ h => h) (Or.inl ⟨?_, ?_⟩) (by assumption) ?_; rotate_left; (focus (first | rfl | (simp [Region.wanted, yielded]; done))); (focus (intro w hSw; (try dsimp only at hSw); go_simp; all_goals (with_reducible rfl))); try simp only [Act.put, List.getElem_toArray, List.getElem_cons_zero, List.getElem_cons_succ, List.setIfInBounds_toArray, List.set_cons_zero, List.set_cons_succ])
          (refine wpAnyH_take (i := 2) (oi := _) (v := ?_) rfl (by kernel_rfl) (by kernel_rfl) (by kernel_rfl) (fun _ _ _ h => h) (Or.inl ⟨?_, ?_⟩) (by assumption) ?_; rotate_left; (focus (first | rfl | (simp [Region.wanted, yielded]; done))); (focus (intro w hSw; (try dsimp only at hSw); go_simp; all_goals (with_reducible rfl))); try simp only [Act.put, List.getElem_toArray, List.getElem_cons_zero, List.getElem_cons_succ, List.setIfInBounds_toArray, List.set_cons_zero, List.set_cons_succ])
          (refine wpAnyH_take (i := 4) (oi := _) (v := ?_) rfl (by kernel_rfl) (by kernel_rfl) (by kernel_rfl) (fun _ _ _ h => h) (Or.inl ⟨?_, ?_⟩) (by assumption) ?_; rotate_left; (focus (first | rfl | (simp [Region.wanted, yielded]; done))); (focus (intro w hSw; (try dsimp only at hSw); go_simp; all_goals (with_reducible rfl))); try simp only [Act.put, List.getElem_toArray, List.getElem_cons_zero, List.getElem_cons_succ, List.setIfInBounds_toArray, List.set_cons_zero, List.set_cons_succ])
          (refine wpAnyH_take (i := 5) (oi := _) (v := ?_) rfl (by kernel_rfl) (by kernel_rfl) (by kernel_rfl) (fun _ _ _ h => h) (Or.inl ⟨?_, ?_⟩) (by assumption) ?_; rotate_left; (focus (first | rfl | (simp [Region.wanted, yielded]; done))); (focus (intro w hSw; (try dsimp only at hSw); go_simp; all_goals (with_reducible rfl))); try simp only [Act.put, List.getElem_toArray, List.getElem_cons_zero, List.getElem_cons_succ, List.setIfInBounds_toArray, List.set_cons_zero, List.set_cons_succ])
          (refine wpAnyH_take (i := 6) (oi := _) (v := ?_) rfl (by kernel_rfl) (by kernel_rfl) (by kernel_rfl) (fun _ _ _ h => h) (Or.inl ⟨?_, ?_⟩) (by assumption) ?_; rotate_left; (focus (first | rfl | (simp [Region.wanted, yielded]; done))); (focus (intro w hSw; (try dsimp only at hSw); go_simp; all_goals (with_reducible rfl))); try simp only [Act.put, List.getElem_toArray, List.getElem_cons_zero, List.getElem_cons_succ, List.setIfInBounds_toArray, List.set_cons_zero, List.set_cons_succ])
          (refine wpAnyH_take (i := 8) (oi := _) (v := ?_) rfl (by kernel_rfl) (by kernel_rfl) (by kernel_rfl) (fun _ _ _ h => h) (Or.inl ⟨?_, ?_⟩) (by assumption) ?_; rotate_left; (focus (first | rfl | (simp [Region.wanted, yielded]; done))); (focus (intro w hSw; (try dsimp only at hSw); go_simp; all_goals (with_reducible rfl))); try simp only [Act.put, List.getElem_toArray, List.getElem_cons_zero, List.getElem_cons_succ, List.setIfInBounds_toArray, List.set_cons_zero, List.set_cons_succ])
          (refine wpAnyH_take (i := 9) (oi := _) (v := ?_) rfl (by kernel_rfl) (by kernel_rfl) (by kernel_rfl) (fun _ _ _ h => h) (Or.inl ⟨?_, ?_⟩) (by assumption) ?_; rotate_left; (focus (first | rfl | (simp [Region.wanted, yielded]; done))); (focus (intro w hSw; (try dsimp only at hSw); go_simp; all_goals (with_reducible rfl))); try simp only [Act.put, List.getElem_toArray, List.getElem_cons_zero, List.getElem_cons_succ, List.setIfInBounds_toArray, List.set_cons_zero, List.set_cons_succ])
          (refine wpAnyH_ready (rs := [3]) (by kernel_rfl) (by simp) ?_; refine AllReadyH.cons (o := _) rfl (fun K hK => ?_) AllReadyH.nil; go_simp)
          refine (F1.out _ hHeld).mono ?_
          rintro e u5 ⟨rfl, b5⟩
          (refine hK.out _ _ (OldB.then hHeld b5) (fun hHeld2 => ?_); clear hK K hHeld; have hHeld := hHeld2; clear hHeld2; try simp only [Act.put, List.getElem_toArray, List.getElem_cons_zero, List.getElem_cons_succ, List.setIfInBounds_toArray, List.set_cons_zero, List.set_cons_succ])
          (refine wpAnyH_ready (rs := [7]) (by kernel_rfl) (by simp) ?_; refine AllReadyH.cons (o := _) rfl (fun K hK => ?_) AllReadyH.nil; go_simp)
          refine (F2.out _ hHeld).mono ?_
          rintro e u6 ⟨rfl, b6⟩
          (refine hK.out _ _ (OldB.then hHeld b6) (fun hHeld2 => ?_); clear hK K hHeld; have hHeld := hHeld2; clear hHeld2; try simp only [Act.put, List.getElem_toArray, List.getElem_cons_zero, List.getElem_cons_succ, List.setIfInBounds_toArray, List.set_cons_zero, List.set_cons_succ])
          (refine wpAnyH_ready (rs := [10]) (by kernel_rfl) (by simp) ?_; refine AllReadyH.cons (o := _) rfl (fun K hK => ?_) AllReadyH.nil; go_simp)
          refine (F3.out _ hHeld).mono ?_
          rintro e u7 ⟨rfl, b7⟩
          (refine hK.out _ _ (OldB.then hHeld b7) (fun hHeld2 => ?_); clear hK K hHeld; have hHeld := hHeld2; clear hHeld2; try simp only [Act.put, List.getElem_toArray, List.getElem_cons_zero, List.getElem_cons_succ, List.setIfInBounds_toArray, List.set_cons_zero, List.set_cons_succ])
          (refine wpAnyH_take (i := 11) (oi := _) (v := ?_) rfl (by kernel_rfl) (by kernel_rfl) (by kernel_rfl) (fun _ _ _ h => h) (Or.inl ⟨?_, ?_⟩) (by assumption) ?_; rotate_left; (focus (first | rfl | (simp [Region.wanted, yielded]; done))); (focus (intro w hSw; (try dsimp only at hSw); go_simp; all_goals (with_reducible rfl))); try simp only [Act.put, List.getElem_toArray, List.getElem_cons_zero, List.getElem_cons_succ, List.setIfInBounds_toArray, List.set_cons_zero, List.set_cons_succ])
          (refine wpAnyH_take (i := 12) (oi := _) (v := ?_) rfl (by kernel_rfl) (by kernel_rfl) (by kernel_rfl) (fun _ _ _ h => h) (Or.inl ⟨?_, ?_⟩) (by assumption) ?_; rotate_left; (focus (first | rfl | (simp [Region.wanted, yielded]; done))); (focus (intro w hSw; (try dsimp only at hSw); go_simp; all_goals (with_reducible rfl))); try simp only [Act.put, List.getElem_toArray, List.getElem_cons_zero, List.getElem_cons_succ, List.setIfInBounds_toArray, List.set_cons_zero, List.set_cons_succ])
          (refine wpAnyH_take (i := 13) (oi := _) (v := ?_) rfl (by kernel_rfl) (by kernel_rfl) (by kernel_rfl) (fun _ _ _ h => h) (Or.inl ⟨?_, ?_⟩) (by assumption) ?_; rotate_left; (focus (first | rfl | (simp [Region.wanted, yielded]; done))); (focus (intro w hSw; (try dsimp only at hSw); go_simp; all_goals (with_reducible rfl))); try simp only [Act.put, List.getElem_toArray, List.getElem_cons_zero, List.getElem_cons_succ, List.setIfInBounds_toArray, List.set_cons_zero, List.set_cons_succ])
          have OW7 := Lib.hid hHeld
          (refine wpAnyH_done (by kernel_rfl) ?_ _; refine NoPanic.normal ?_)
          clear hHeld b5 b6 b7 F1 F2 F3 K0 K8 KD
          have L7 := Lib.hid (L4.out.below OW7.out)
          obtain ⟨y, b, off, Y1, Y2, s1, s2, hyc, hA4, hb, hy1, hy2, hyo, hys, hcell⟩ := ms_el L7.out.ms hpr HRZ.out
          subst hA4
          have OO := Lib.hid (fun (u : World) (hu : OldB u7 u) => (E2.out u (BB43.out u (Below.trans OW7.out (Below.mono hu (Below.size OW7.out))))).2.2.1)
          have SM : Hid (∀ u, OldB u7 u → Calls Tryz.prog 44 #[.agg #[.string (mkB o.c.id), .int .i64 o.c.kind, .int .i64 o.c.x, .int .i64 o.c.y, .slice Y1 o.c.refs.length s1, .slice Y2 o.c.tags.length s2], .agg #[.string (mkB o.c.id), .int .i64 o.c.kind, .int .i64 o.c.x, .int .i64 o.c.y, .slice B1 o.c.refs.length r1, .slice B2 o.c.tags.length r2]] u fun e w' => e = .returned (.bool true) ∧ Below u.heap.size u w') := Lib.hid (fun u hu => by
            have := same_any y o u (hyo.below hu) (OO.out u hu) (by rw [hyc]; exact SZ.out.1) SZ.out.1
            unfold roA at this
            rw [V1.out, V2.out, hyc, hy1, hy2, At.sameO_refl] at this
            exact this)
          have VX := Lib.hid (fun (u : World) (hu : OldB u7 u) => avalid_any (some ⟨b, off, none⟩) c4 R4 R4.length u rfl (L7.out.below hu).ms)
          rw [E4.out, put_valid HV.out HVO.out (by rw [cts_len, ← HN.out]; omega)] at VX
          have K8 : ∀ u, OldB u7 u → u.cell? ⟨g4, 0, none⟩ = some (.slice (some ⟨b, off, none⟩) R4.length c4) := fun u hu => (L7.out.below hu).cell
          have HC := Lib.hid hcell
          have E73 := Lib.hid (fun (u : World) (hu : OldB u7 u) => BB43.out u (Below.trans OW7.out (Below.mono hu (Below.size OW7.out))))
          have i1 : decide ((pX : Int) < 0) = false := by simp
          have i2 : decide ((R4.length : Int) ≤ (pX : Int)) = false := by simp; omega
          have i5 : decide (R4.length ≤ pX) = false := by simp; omega
          have i3 : (0 : Int) ≤ (pX : Int) := by omega
          have i4 : (pX : Int) < (R4.length : Int) := by omega
          clear hcell hyc hy1 hy2 hyo hys
          go_upto_region 8 with fail
          (refine wp_region_noPanic ?_; refine wp_region_held_drew (S := (OldB u7)) (by kernel_rfl) ?_ (fun hHeld => ?_); exact Below.drew (Below.refl _ _))
          (refine wpAnyH_take (i := 0) (oi := _) (v := ?_) rfl (by kernel_rfl) (by kernel_rfl) (by kernel_rfl) (fun _ _ _ h => h) (Or.inl ⟨?_, ?_⟩) (by assumption) ?_; rotate_left; (focus (first | rfl | (simp [Region.wanted, yielded]; done))); (focus (intro w hSw; (try dsimp only at hSw); go_simp; all_goals (with_reducible rfl))); try simp only [Act.put, List.getElem_toArray, List.getElem_cons_zero, List.getElem_cons_succ, List.setIfInBounds_toArray, List.set_cons_zero, List.set_cons_succ])
          (refine wpAnyH_ready (rs := [1]) (by kernel_rfl) (by simp) ?_; refine AllReadyH.cons (o := _) rfl (fun K hK => ?_) AllReadyH.nil; go_simp)
          refine (VX.out _ hHeld).mono ?_
          rintro e u8 ⟨rfl, b8⟩
          (refine hK.out _ _ (OldB.then hHeld b8) (fun hHeld2 => ?_); clear hK K hHeld; have hHeld := hHeld2; clear hHeld2; try simp only [Act.put, List.getElem_toArray, List.getElem_cons_zero, List.getElem_cons_succ, List.setIfInBounds_toArray, List.set_cons_zero, List.set_cons_succ])
          (refine wpAnyH_take (i := 2) (oi := _) (v := ?_) rfl (by kernel_rfl) (by kernel_rfl) (by kernel_rfl) (fun _ _ _ h => h) (Or.inl ⟨?_, ?_⟩) (by assumption) ?_; rotate_left; (focus (first | rfl | (simp [Region.wanted, yielded]; done))); (focus (intro w hSw; (try dsimp only at hSw); go_simp; all_goals (with_reducible rfl))); try simp only [Act.put, List.getElem_toArray, List.getElem_cons_zero, List.getElem_cons_succ, List.setIfInBounds_toArray, List.set_cons_zero, List.set_cons_succ])
          (refine wpAnyH_take (i := 3) (oi := _) (v := ?_) rfl (by kernel_rfl) (by kernel_rfl) (by kernel_rfl) (fun _ _ _ h => h) (Or.inl ⟨?_, ?_⟩) (by assumption) ?_; rotate_left; (focus (first | rfl | (simp [Region.wanted, yielded]; done))); (focus (intro w hSw; (try dsimp only at hSw); go_simp; all_goals (with_reducible rfl))); try simp only [Act.put, List.getElem_toArray, List.getElem_cons_zero, List.getElem_cons_succ, List.setIfInBounds_toArray, List.set_cons_zero, List.set_cons_succ])
          (refine wpAnyH_take (i := 4) (oi := _) (v := ?_) rfl (by kernel_rfl) (by kernel_rfl) (by kernel_rfl) (fun _ _ _ h => h) (Or.inl ⟨?_, ?_⟩) (by assumption) ?_; rotate_left; (focus kernel_rfl); (focus (intro w hSw; (try dsimp only at hSw); go_simp; all_goals (with_reducible rfl))); try simp only [Act.put, List.getElem_toArray, List.getElem_cons_zero, List.getElem_cons_succ, List.setIfInBounds_toArray, List.set_cons_zero, List.set_cons_succ])
          (refine wpAnyH_take (i := 5) (oi := _) (v := ?_) rfl (by kernel_rfl) (by kernel_rfl) (by kernel_rfl) (fun _ _ _ h => h) (Or.inl ⟨?_, ?_⟩) (by assumption) ?_; rotate_left; (focus kernel_rfl); (focus (intro w hSw; (try dsimp only at hSw); go_simp; all_goals (with_reducible rfl))); try simp only [Act.put, List.getElem_toArray, List.getElem_cons_zero, List.getElem_cons_succ, List.setIfInBounds_toArray, List.set_cons_zero, List.set_cons_succ])
          (refine wpAnyH_take (i := 6) (oi := _) (v := ?_) rfl (by kernel_rfl) (by kernel_rfl) (by kernel_rfl) (fun _ _ _ h => h) (Or.inl ⟨?_, ?_⟩) (by assumption) ?_; rotate_left; (focus kernel_rfl); (focus (intro w hSw; (try dsimp only at hSw); go_simp; all_goals (with_reducible rfl))); try simp only [Act.put, List.getElem_toArray, List.getElem_cons_zero, List.getElem_cons_succ, List.setIfInBounds_toArray, List.set_cons_zero, List.set_cons_succ])
          (refine wpAnyH_take (i := 7) (oi := _) (v := ?_) rfl (by kernel_rfl) (by kernel_rfl) (by kernel_rfl) (fun _ _ _ h => h) (Or.inl ⟨?_, ?_⟩) (by assumption) ?_; rotate_left; (focus (first | rfl | (simp [Region.wanted, yielded]; done))); (focus (intro w hSw; (try dsimp only at hSw); go_simp; all_goals (with_reducible rfl))); try simp only [Act.put, List.getElem_toArray, List.getElem_cons_zero, List.getElem_cons_succ, List.setIfInBounds_toArray, List.set_cons_zero, List.set_cons_succ])
          (refine wpAnyH_take (i := 8) (oi := _) (v := ?_) rfl (by kernel_rfl) (by kernel_rfl) (by kernel_rfl) (fun _ _ _ h => h) (Or.inl ⟨?_, ?_⟩) (by assumption) ?_; rotate_left; (focus kernel_rfl); (focus (intro w hSw; (try dsimp only at hSw); go_simp; all_goals (with_reducible rfl))); try simp only [Act.put, List.getElem_toArray, List.getElem_cons_zero, List.getElem_cons_succ, List.setIfInBounds_toArray, List.set_cons_zero, List.set_cons_succ])
          (refine wpAnyH_take (i := 9) (oi := _) (v := ?_) rfl (by kernel_rfl) (by kernel_rfl) (by kernel_rfl) (fun _ _ _ h => h) (Or.inl ⟨?_, ?_⟩) (by assumption) ?_; rotate_left; (focus kernel_rfl); (focus (intro w hSw; (try dsimp only at hSw); go_simp; all_goals (with_reducible rfl))); try simp only [Act.put, List.getElem_toArray, List.getElem_cons_zero, List.getElem_cons_succ, List.setIfInBounds_toArray, List.set_cons_zero, List.set_cons_succ])
          (refine wpAnyH_take (i := 10) (oi := _) (v := ?_) rfl (by kernel_rfl) (by kernel_rfl) (by kernel_rfl) (fun _ _ _ h => h) (Or.inl ⟨?_, ?_⟩) (by assumption) ?_; rotate_left; (focus kernel_rfl); (focus (intro w hSw; (try dsimp only at hSw); go_simp; all_goals (with_reducible rfl))); try simp only [Act.put, List.getElem_toArray, List.getElem_cons_zero, List.getElem_cons_succ, List.setIfInBounds_toArray, List.set_cons_zero, List.set_cons_succ])
          (refine wpAnyH_take (i := 11) (oi := _) (v := ?_) rfl (by kernel_rfl) (by kernel_rfl) (by kernel_rfl) (fun _ _ _ h => h) (Or.inl ⟨?_, ?_⟩) (by assumption) ?_; rotate_left; (focus kernel_rfl); (focus (intro w hSw; (try dsimp only at hSw); go_simp; all_goals (with_reducible rfl))); try simp only [Act.put, List.getElem_toArray, List.getElem_cons_zero, List.getElem_cons_succ, List.setIfInBounds_toArray, List.set_cons_zero, List.set_cons_succ])
          (refine wpAnyH_take (i := 12) (oi := _) (v := ?_) rfl (by kernel_rfl) (by kernel_rfl) (by kernel_rfl) (fun _ _ _ h => h) (Or.inl ⟨?_, ?_⟩) (by assumption) ?_; rotate_left; (focus kernel_rfl); (focus (intro w hSw; (try dsimp only at hSw); go_simp; all_goals (with_reducible rfl))); try simp only [Act.put, List.getElem_toArray, List.getElem_cons_zero, List.getElem_cons_succ, List.setIfInBounds_toArray, List.set_cons_zero, List.set_cons_succ])
          (refine wpAnyH_take (i := 13) (oi := _) (v := ?_) rfl (by kernel_rfl) (by kernel_rfl) (by kernel_rfl) (fun _ _ _ h => h) (Or.inl ⟨?_, ?_⟩) (by assumption) ?_; rotate_left; (focus kernel_rfl); (focus (intro w hSw; (try dsimp only at hSw); go_simp; all_goals (with_reducible rfl))); try simp only [Act.put, List.getElem_toArray, List.getElem_cons_zero, List.getElem_cons_succ, List.setIfInBounds_toArray, List.set_cons_zero, List.set_cons_succ])
          (refine wpAnyH_take (i := 14) (oi := _) (v := ?_) rfl (by kernel_rfl) (by kernel_rfl) (by kernel_rfl) (fun _ _ _ h => h) (Or.inl ⟨?_, ?_⟩) (by assumption) ?_; rotate_left; (focus (first | rfl | (simp [Region.wanted, yielded]; done))); (focus (intro w hSw; (try dsimp only at hSw); go_simp; all_goals (with_reducible rfl))); try simp only [Act.put, List.getElem_toArray, List.getElem_cons_zero, List.getElem_cons_succ, List.setIfInBounds_toArray, List.set_cons_zero, List.set_cons_succ])
          (refine wpAnyH_take (i := 15) (oi := _) (v := ?_) rfl (by kernel_rfl) (by kernel_rfl) (by kernel_rfl) (fun _ _ _ h => h) (Or.inl ⟨?_, ?_⟩) (by assumption) ?_; rotate_left; (focus kernel_rfl); (focus (intro w hSw; (try dsimp only at hSw); go_simp; all_goals (with_reducible rfl))); try simp only [Act.put, List.getElem_toArray, List.getElem_cons_zero, List.getElem_cons_succ, List.setIfInBounds_toArray, List.set_cons_zero, List.set_cons_succ])
          (refine wpAnyH_take (i := 16) (oi := _) (v := ?_) rfl (by kernel_rfl) (by kernel_rfl) (by kernel_rfl) (fun _ _ _ h => h) (Or.inl ⟨?_, ?_⟩) (by assumption) ?_; rotate_left; (focus kernel_rfl); (focus (intro w hSw; (try dsimp only at hSw); go_simp; all_goals (with_reducible rfl))); try simp only [Act.put, List.getElem_toArray, List.getElem_cons_zero, List.getElem_cons_succ, List.setIfInBounds_toArray, List.set_cons_zero, List.set_cons_succ])
          (refine wpAnyH_take (i := 17) (oi := _) (v := ?_) rfl (by kernel_rfl) (by kernel_rfl) (by kernel_rfl) (fun _ _ _ h => h) (Or.inl ⟨?_, ?_⟩) (by assumption) ?_; rotate_left; (focus kernel_rfl); (focus (intro w hSw; (try dsimp only at hSw); go_simp; all_goals (with_reducible rfl))); try simp only [Act.put, List.getElem_toArray, List.getElem_cons_zero, List.getElem_cons_succ, List.setIfInBounds_toArray, List.set_cons_zero, List.set_cons_succ])
          (refine wpAnyH_take (i := 18) (oi := _) (v := ?_) rfl (by kernel_rfl) (by kernel_rfl) (by kernel_rfl) (fun _ _ _ h => h) (Or.inl ⟨?_, ?_⟩) (by assumption) ?_; rotate_left; (focus kernel_rfl); (focus (intro w hSw; (try dsimp only at hSw); go_simp; all_goals (with_reducible rfl))); try simp only [Act.put, List.getElem_toArray, List.getElem_cons_zero, List.getElem_cons_succ, List.setIfInBounds_toArray, List.set_cons_zero, List.set_cons_succ])
          have f0 := fun u hu => HC.out 0 _ rfl u hu
          have f1 := fun u hu => HC.out 1 _ rfl u hu
          have f2 := fun u hu => HC.out 2 _ rfl u hu
          have f3 := fun u hu => HC.out 3 _ rfl u hu
          have f4 := fun u hu => HC.out 4 _ rfl u hu
          have f5 := fun u hu => HC.out 5 _ rfl u hu
          simp only [Nat.add_zero] at f0
          (refine wpAnyH_take (i := 19) (oi := _) (v := ?_) rfl (by kernel_rfl) (by kernel_rfl) (by kernel_rfl) (fun _ _ _ h => h) (Or.inl ⟨?_, ?_⟩) (by assumption) ?_; rotate_left; (focus kernel_rfl); (focus (intro w hSw; (try dsimp only at hSw); go_simp; all_goals (with_reducible rfl))); try simp only [Act.put, List.getElem_toArray, List.getElem_cons_zero, List.getElem_cons_succ, List.setIfInBounds_toArray, List.set_cons_zero, List.set_cons_succ])
          clear f0 f1 f2 f3 f4 f5
          have f0 := fun u hu => EO.out u (E73.out u hu) 0 _ rfl
          have f1 := fun u hu => EO.out u (E73.out u hu) 1 _ rfl
          have f2 := fun u hu => EO.out u (E73.out u hu) 2 _ rfl
          have f3 := fun u hu => EO.out u (E73.out u hu) 3 _ rfl
          have f4 := fun u hu => EO.out u (E73.out u hu) 4 _ rfl
          have f5 := fun u hu => EO.out u (E73.out u hu) 5 _ rfl
          (refine wpAnyH_take (i := 20) (oi := _) (v := ?_) rfl (by kernel_rfl) (by kernel_rfl) (by kernel_rfl) (fun _ _ _ h => h) (Or.inl ⟨?_, ?_⟩) (by assumption) ?_; rotate_left; (focus kernel_rfl); (focus (intro w hSw; (try dsimp only at hSw); go_simp; all_goals (with_reducible rfl))); try simp only [Act.put, List.getElem_toArray, List.getElem_cons_zero, List.getElem_cons_succ, List.setIfInBounds_toArray, List.set_cons_zero, List.set_cons_succ])
          clear f0 f1 f2 f3 f4 f5
          (refine wpAnyH_ready (rs := [21]) (by kernel_rfl) (by simp) ?_; refine AllReadyH.cons (o := _) rfl (fun K hK => ?_) AllReadyH.nil; go_simp)
          refine (SM.out _ hHeld).mono ?_
          rintro e u9 ⟨rfl, b9⟩
          (refine hK.out _ _ (OldB.then hHeld b9) (fun hHeld2 => ?_); clear hK K hHeld; have hHeld := hHeld2; clear hHeld2; try simp only [Act.put, List.getElem_toArray, List.getElem_cons_zero, List.getElem_cons_succ, List.setIfInBounds_toArray, List.set_cons_zero, List.set_cons_succ])
          (refine wpAnyH_take (i := 22) (oi := _) (v := ?_) rfl (by kernel_rfl) (by kernel_rfl) (by kernel_rfl) (fun _ _ _ h => h) (Or.inl ⟨?_, ?_⟩) (by assumption) ?_; rotate_left; (focus kernel_rfl); (focus (intro w hSw; (try dsimp only at hSw); go_simp; all_goals (with_reducible rfl))); try simp only [Act.put, List.getElem_toArray, List.getElem_cons_zero, List.getElem_cons_succ, List.setIfInBounds_toArray, List.set_cons_zero, List.set_cons_succ])
          (refine wpAnyH_take (i := 23) (oi := _) (v := ?_) rfl (by kernel_rfl) (by kernel_rfl) (by kernel_rfl) (fun _ _ _ h => h) (Or.inl ⟨?_, ?_⟩) (by assumption) ?_; rotate_left; (focus (first | rfl | (simp [Region.wanted, yielded]; done))); (focus (intro w hSw; (try dsimp only at hSw); go_simp; all_goals (with_reducible rfl))); try simp only [Act.put, List.getElem_toArray, List.getElem_cons_zero, List.getElem_cons_succ, List.setIfInBounds_toArray, List.set_cons_zero, List.set_cons_succ])
          have OW9 := Lib.hid hHeld
          (refine wpAnyH_done (by kernel_rfl) ?_ _; refine NoPanic.normal ?_)
          clear hHeld b8 b9 SM VX K8 i1 i2 i3 i4 i5 HC OO
          have L9 := Lib.hid (L7.out.below OW9.out)
          have B9 := Lib.hid (E73.out u9 OW9.out)
          have t1 := mkB_tl id
          have t2 := mkB_tl o.c.id
          have f0 := EO.out u9 B9.out 0 _ rfl
          obtain ⟨k0, M9, -, -⟩ := E2.out u9 B9.out
          have k8 := L9.out.cell
          rcases Classical.em (id = o.c.id) with hid | hid
          · have q1 : (id == o.c.id) = true := by rw [hid]; simp
            have q2 : (id != o.c.id) = false := by rw [hid]; simp
            have BU := B9
            have LU := L9
            clear hid M9 L9 B9
            go_upto_region 14 with fail
            clear f0 k0 k8 q1 q2
            obtain ⟨k0, MU, -, bwu⟩ := E2.out u9 BU.out
            have BWU := Lib.hid bwu
            have MU := Lib.hid MU
            clear bwu
            cases hk : At.look (cts l) o.c.id with
            | none =>
              obtain rfl : kI = -1 := by rw [KI.out]; exact find_none hk
              have DB := Lib.hid (drop_back HV.out HVO.out (by rw [cts_len, ← HN.out]; omega) hk)
              have PL : R4.length = n + 1 := by rw [← cts_len R4, E4.out, put_len_new (At.validM_iff.1 HV.out).1 hk, cts_len, HN.out]
              have DC := Lib.hid (hdrop (c := c4) LU.out.ms o.c.id _ _ E4.out DB.out)
              have k8 := LU.out.cell
              rw [PL] at k8 DC
              have f0 := EO.out u9 BU.out 0 _ rfl
              have wn : IntKind.i64.wrap ((n : Int) + 1) = (n : Int) + 1 := IntWalk.i64_in _ (by omega)
              have PLH := Lib.hid PL
              clear PL hk
              go_wp2_with fail
              refine DC.out.mono ?_
              rintro e v1 g1
              obtain ⟨A6, c6, R6, rfl, M6, E6, C6, d1⟩ := mapE_ok g1
              have L6 := Lib.hid (Live.new M6 C6)
              have E6 := Lib.hid E6
              have d2 := d1.alloc d1.size (.cells #[.slice A6 R6.length c6] 24)
              have LU := Lib.hid (LU.out.below d2)
              have BU := Lib.hid (show OldB u3 _ from BU.out.then d2)
              clear g1 M6 C6 d1 d2 k0 k8 f0 DC MU BWU
              go_upto_region 16 with fail
              generalize v1.alloc (.cells #[.slice A6 R6.length c6] 24) = v2 at *
              generalize v1.heap.size = g6 at *
              obtain ⟨k0, MV, -, -⟩ := E2.out v2 BU.out
              have k6 := L6.out.cell
              have SB := Lib.hid (rsamem_any A6 _ c6 c R6 l R6.length n v2 rfl HN.out L6.out.ms MV)
              rw [E6.out, At.sameL_iff.2 rfl] at SB
              clear MV
              go_wp2_with fail
              refine SB.out.mono ?_
              rintro e v3 ⟨rfl, d3⟩
              have LU := Lib.hid (LU.out.below d3)
              have BU := Lib.hid (BU.out.then d3)
              obtain ⟨k0, -, -, bwv⟩ := E2.out v3 BU.out
              have BWV := Lib.hid bwv
              have k8 := LU.out.cell
              rw [PLH.out] at k8
              clear bwv d3 SB k6
              go_wp2_with fail
              go_ret
              exact ⟨rfl, BWV.out⟩
            | some z =>
              obtain ⟨hpl, hpz, hpf⟩ := find_some (At.validM_iff.1 HV.out).1 hk
              rw [← KI.out] at hpf
              subst hpf
              have PB := Lib.hid (put_back HV.out HVO.out (by rw [cts_len, ← HN.out]; omega) hk)
              generalize At.pos (cts l) o.c.id = pL at *
              have hpl2 : pL < l.length := by rwa [cts_len] at hpl
              have hpz2 : l[pL].c = z := by rw [← hpz]; simp [cts]
              obtain ⟨y', b', off', Y3, Y4, s3, s4, hyc', hA', hb', hy3, hy4, hyo', hys', hcell'⟩ := ms_el MU.out hpl2 hpz2
              first | subst hA' | (obtain ⟨e1, e2⟩ : b' = b6 ∧ off' = o6 := (by injection hA' with h; injection h with h1 h2; exact ⟨h1.symm, h2.symm⟩); subst e1 e2)
              have lU : g4 < u9.heap.size := (Array.getElem?_eq_some_iff.1 LU.out.box).1
              have PC : Hid (∀ v, OldB u9 v → Calls Tryz.prog 25 #[.agg #[.slice (some ⟨b, off, none⟩) R4.length c4], .agg #[.string (mkB z.id), .int .i64 z.kind, .int .i64 z.x, .int .i64 z.y, .slice Y3 z.refs.length s3, .slice Y4 z.tags.length s4]] v (MapE v (cts l, 0))) := Lib.hid (fun v hv => by
                have := hput (c := c4) (LU.out.below hv).ms y' (hyo'.below hv) (by rw [hyc']; exact hys') _ _ E4.out (by rw [hyc']; exact PB.out) (by have := putF_length (cts l) (At.validM_iff.1 HV.out).1 o.c; rw [cts_len, ← HN.out] at this; omega)
                unfold roA at this
                rw [hyc', hy3, hy4] at this
                exact this)
              have K0 : ∀ v, OldB u9 v → v.cell? ⟨w.heap.size, 0, none⟩ = some (.slice (some ⟨b', off', none⟩) n c) := fun v hv => (E2.out v (Below.trans BU.out (Below.mono hv (Below.size BU.out)))).1
              have K8 : ∀ v, OldB u9 v → v.cell? ⟨g4, 0, none⟩ = some (.slice (some ⟨b, off, none⟩) R4.length c4) := fun v hv => (LU.out.below hv).cell
              have f0 := fun v hv => hcell' 0 _ rfl v hv
              have f1 := fun v hv => hcell' 1 _ rfl v hv
              have f2 := fun v hv => hcell' 2 _ rfl v hv
              have f3 := fun v hv => hcell' 3 _ rfl v hv
              have f4 := fun v hv => hcell' 4 _ rfl v hv
              have f5 := fun v hv => hcell' 5 _ rfl v hv
              simp only [Nat.add_zero] at f0
              have hpn : pL < n := by rw [HN.out]; exact hpl2
              have j1 : (0 : Int) ≤ (pL : Int) := by omega
              have j2 : (pL : Int) < (n : Int) := by omega
              clear hcell' hyo' hys' hy3 hy4 hyc' MU hk hpz hpz2 hpl
              go_upto_region 19 with fail
              clear k0
              go_cut [16, 17] (fun s3 s4 wx => ∃ (p : Nat) (A : Option Addr) (c : Nat) (R : List RO), s3 = .pointer (some ⟨p, 0, none⟩) ∧ s4 = .int .i64 0 ∧ Hid (Live wx p A c R ∧ cts R = cts l) ∧ Hid (OldB u9 wx))
              case first =>
                (refine wp_region_noPanic ?_; refine wp_region_held_drew (S := (OldB u9)) (by kernel_rfl) ?_ (fun hHeld => ?_); exact Below.drew (Below.refl _ _))
                (refine wpAnyH_take (i := 0) (oi := _) (v := ?_) rfl (by kernel_rfl) (by kernel_rfl) (by kernel_rfl) (fun _ _ _ h => h) (Or.inl ⟨?_, ?_⟩) (by assumption) ?_; rotate_left; (focus (first | rfl | (simp [Region.wanted, yielded]; done))); (focus (intro w hSw; (try dsimp only at hSw); go_simp; all_goals (with_reducible rfl))); try simp only [Act.put, List.getElem_toArray, List.getElem_cons_zero, List.getElem_cons_succ, List.setIfInBounds_toArray, List.set_cons_zero, List.set_cons_succ])
                (refine wpAnyH_take (i := 1) (oi := _) (v := ?_) rfl (by kernel_rfl) (by kernel_rfl) (by kernel_rfl) (fun _ _ _ h => h) (Or.inl ⟨?_, ?_⟩) (by assumption) ?_; rotate_left; (focus (first | rfl | (simp [Region.wanted, yielded]; done))); (focus (intro w hSw; (try dsimp only at hSw); go_simp; all_goals (with_reducible rfl))); try simp only [Act.put, List.getElem_toArray, List.getElem_cons_zero, List.getElem_cons_succ, List.setIfInBounds_toArray, List.set_cons_zero, List.set_cons_succ])
                (refine wpAnyH_take (i := 2) (oi := _) (v := ?_) rfl (by kernel_rfl) (by kernel_rfl) (by kernel_rfl) (fun _ _ _ h => h) (Or.inl ⟨?_, ?_⟩) (by assumption) ?_; rotate_left; (focus (first | rfl | (simp [Region.wanted, yielded]; done))); (focus (intro w hSw; (try dsimp only at hSw); go_simp; all_goals (with_reducible rfl))); try simp only [Act.put, List.getElem_toArray, List.getElem_cons_zero, List.getElem_cons_succ, List.setIfInBounds_toArray, List.set_cons_zero, List.set_cons_succ])
                (refine wpAnyH_take (i := 3) (oi := _) (v := ?_) rfl (by kernel_rfl) (by kernel_rfl) (by kernel_rfl) (fun _ _ _ h => h) (Or.inl ⟨?_, ?_⟩) (by assumption) ?_; rotate_left; (focus (first | rfl | (simp [Region.wanted, yielded]; done))); (focus (intro w hSw; (try dsimp only at hSw); go_simp; all_goals (with_reducible rfl))); try simp only [Act.put, List.getElem_toArray, List.getElem_cons_zero, List.getElem_cons_succ, List.setIfInBounds_toArray, List.set_cons_zero, List.set_cons_succ])
                (refine wpAnyH_take (i := 4) (oi := _) (v := ?_) rfl (by kernel_rfl) (by kernel_rfl) (by kernel_rfl) (fun _ _ _ h => h) (Or.inl ⟨?_, ?_⟩) (by assumption) ?_; rotate_left; (focus (first | rfl | (simp [Region.wanted, yielded]; done))); (focus (intro w hSw; (try dsimp only at hSw); go_simp; all_goals (with_reducible rfl))); try simp only [Act.put, List.getElem_toArray, List.getElem_cons_zero, List.getElem_cons_succ, List.setIfInBounds_toArray, List.set_cons_zero, List.set_cons_succ])
                (refine wpAnyH_take (i := 5) (oi := _) (v := ?_) rfl (by kernel_rfl) (by kernel_rfl) (by kernel_rfl) (fun _ _ _ h => h) (Or.inl ⟨?_, ?_⟩) (by assumption) ?_; rotate_left; (focus (first | rfl | (simp [Region.wanted, yielded]; done))); (focus (intro w hSw; (try dsimp only at hSw); go_simp; all_goals (with_reducible rfl))); try simp only [Act.put, List.getElem_toArray, List.getElem_cons_zero, List.getElem_cons_succ, List.setIfInBounds_toArray, List.set_cons_zero, List.set_cons_succ])
                (refine wpAnyH_ready (rs := [6, 10]) (by kernel_rfl) (by simp) ?_; refine AllReadyH.cons (o := _) rfl (fun K hK => ?_) (AllReadyH.cons (o := _) rfl (fun K hK => ?_) AllReadyH.nil))
                · go_simp
                  refine (PC.out _ hHeld).mono ?_
                  rintro e v2 h3
                  obtain ⟨A2, c2, R2, rfl, M2, E9, C2, d2⟩ := mapE_ok h3
                  clear h3
                  (refine hK.out _ _ (OldB.then hHeld d2) (fun hHeld2 => ?_); clear hK K hHeld; have hHeld := hHeld2; clear hHeld2; try simp only [Act.put, List.getElem_toArray, List.getElem_cons_zero, List.getElem_cons_succ, List.setIfInBounds_toArray, List.set_cons_zero, List.set_cons_succ])
                  (refine wpAnyH_take (i := 7) (oi := _) (v := ?_) rfl (by kernel_rfl) (by kernel_rfl) (by kernel_rfl) (fun _ _ _ h => h) (Or.inl ⟨?_, ?_⟩) (by assumption) ?_; rotate_left; (focus (first | rfl | (simp [Region.wanted, yielded]; done))); (focus (intro w hSw; (try dsimp only at hSw); go_simp; all_goals (with_reducible rfl))); try simp only [Act.put, List.getElem_toArray, List.getElem_cons_zero, List.getElem_cons_succ, List.setIfInBounds_toArray, List.set_cons_zero, List.set_cons_succ])
                  (refine wpAnyH_take (i := 8) (oi := _) (v := ?_) rfl (by kernel_rfl) (by kernel_rfl) (by kernel_rfl) (fun _ _ _ h => h) (Or.inl ⟨?_, ?_⟩) (by assumption) ?_; rotate_left; (focus (first | rfl | (simp [Region.wanted, yielded]; done))); (focus (intro w hSw; (try dsimp only at hSw); go_simp; all_goals (with_reducible rfl))); try simp only [Act.put, List.getElem_toArray, List.getElem_cons_zero, List.getElem_cons_succ, List.setIfInBounds_toArray, List.set_cons_zero, List.set_cons_succ])
                  (refine wpAnyH_take (i := 9) (oi := _) (v := ?_) rfl (by kernel_rfl) (by kernel_rfl) (by kernel_rfl) (fun _ _ _ h => h) (Or.inl ⟨?_, ?_⟩) (by assumption) ?_; rotate_left; (focus (first | rfl | (simp [Region.wanted, yielded]; done))); (focus (intro w hSw; (try dsimp only at hSw); go_simp; all_goals (with_reducible rfl))); try simp only [Act.put, List.getElem_toArray, List.getElem_cons_zero, List.getElem_cons_succ, List.setIfInBounds_toArray, List.set_cons_zero, List.set_cons_succ])
                  have hp := Below.size (show Below _ _ _ from hHeld)
                  have HH0 := Lib.hid hHeld
                  (refine wpAnyH_ready (rs := [10]) (by kernel_rfl) (by simp) ?_; refine AllReadyH.cons (o := _) rfl (fun K hK => ?_) AllReadyH.nil; go_simp)
                  (refine hK.out _ _ (OldB.alloc hHeld _) (fun hHeld2 => ?_); clear hK K hHeld; have hHeld := hHeld2; clear hHeld2; try simp only [Act.put, List.getElem_toArray, List.getElem_cons_zero, List.getElem_cons_succ, List.setIfInBounds_toArray, List.set_cons_zero, List.set_cons_succ])
                  first | have HG := Lib.hid (box_new hHeld) | have HG := Lib.hid (box_newD hHeld)
                  try simp only [World.size_alloc, World.size_drew] at hp
                  try simp only [World.size_alloc, World.size_drew] at HG
                  have k0 := cell_of_row _ _ 0 _ _ _ HG.out
                  have f0 := free_blk HG.out 0
                  simp at k0 f0
                  (refine wpAnyH_ready (rs := [11]) (by kernel_rfl) (by simp) ?_; refine AllReadyH.cons (o := _) rfl (fun K hK => ?_) AllReadyH.nil; go_simp)
                  (refine hK.out _ _ (OldB.alloc HH0.out _) (fun hHeld2 => ?_); clear hK K hHeld; have hHeld := hHeld2; clear hHeld2; try simp only [Act.put, List.getElem_toArray, List.getElem_cons_zero, List.getElem_cons_succ, List.setIfInBounds_toArray, List.set_cons_zero, List.set_cons_succ])
                  (refine wpAnyH_take (i := 12) (oi := _) (v := ?_) rfl (by kernel_rfl) (by kernel_rfl) (by kernel_rfl) (fun _ _ _ h => h) (Or.inl ⟨?_, ?_⟩) (by assumption) ?_; rotate_left; (focus (first | rfl | (simp [Region.wanted, yielded]; done))); (focus (intro w hSw; (try dsimp only at hSw); go_simp; all_goals (with_reducible rfl))); try simp only [Act.put, List.getElem_toArray, List.getElem_cons_zero, List.getElem_cons_succ, List.setIfInBounds_toArray, List.set_cons_zero, List.set_cons_succ])
                  have OW := Lib.hid hHeld
                  (refine wpAnyH_done (by kernel_rfl) ?_ _; refine NoPanic.normal ?_)
                  go_wp2_with fail
                  go_meet
                  first
                    | exact ⟨_, A2, c2, R2, rfl, rfl, Lib.hid ⟨Live.set HG.out M2 C2, E9⟩, OW⟩
                    | exact ⟨_, A2, c2, R2, rfl, rfl, Lib.hid ⟨Live.set HG.out (M2.below ((Below.refl _ _).alloc (Nat.le_refl _) _)) C2, E9⟩, OW⟩
                    | exact ⟨_, A2, c2, R2, rfl, rfl, Lib.hid ⟨Live.new M2 C2, E9⟩, OW⟩
                · go_simp
                  have hp := Below.size (show Below _ _ _ from hHeld)
                  have HH0 := Lib.hid hHeld
                  (refine hK.out _ _ (OldB.alloc hHeld _) (fun hHeld2 => ?_); clear hK K hHeld; have hHeld := hHeld2; clear hHeld2; try simp only [Act.put, List.getElem_toArray, List.getElem_cons_zero, List.getElem_cons_succ, List.setIfInBounds_toArray, List.set_cons_zero, List.set_cons_succ])
                  first | have HG := Lib.hid (box_new hHeld) | have HG := Lib.hid (box_newD hHeld)
                  try simp only [World.size_alloc, World.size_drew] at hp
                  try simp only [World.size_alloc, World.size_drew] at HG
                  (refine wpAnyH_ready (rs := [6]) (by kernel_rfl) (by simp) ?_; refine AllReadyH.cons (o := _) rfl (fun K hK => ?_) AllReadyH.nil; go_simp)
                  refine (PC.out _ hHeld).mono ?_
                  rintro e v2 h3
                  obtain ⟨A2, c2, R2, rfl, M2, E9, C2, d2⟩ := mapE_ok h3
                  clear h3
                  (refine hK.out _ _ (OldB.then hHeld d2) (fun hHeld2 => ?_); clear hK K hHeld; have hHeld := hHeld2; clear hHeld2; try simp only [Act.put, List.getElem_toArray, List.getElem_cons_zero, List.getElem_cons_succ, List.setIfInBounds_toArray, List.set_cons_zero, List.set_cons_succ])
                  have HG := Lib.hid ((d2.block _ (lt_of_block HG.out)).trans HG.out)
                  (refine wpAnyH_take (i := 7) (oi := _) (v := ?_) rfl (by kernel_rfl) (by kernel_rfl) (by kernel_rfl) (fun _ _ _ h => h) (Or.inl ⟨?_, ?_⟩) (by assumption) ?_; rotate_left; (focus (first | rfl | (simp [Region.wanted, yielded]; done))); (focus (intro w hSw; (try dsimp only at hSw); go_simp; all_goals (with_reducible rfl))); try simp only [Act.put, List.getElem_toArray, List.getElem_cons_zero, List.getElem_cons_succ, List.setIfInBounds_toArray, List.set_cons_zero, List.set_cons_succ])
                  (refine wpAnyH_take (i := 8) (oi := _) (v := ?_) rfl (by kernel_rfl) (by kernel_rfl) (by kernel_rfl) (fun _ _ _ h => h) (Or.inl ⟨?_, ?_⟩) (by assumption) ?_; rotate_left; (focus (first | rfl | (simp [Region.wanted, yielded]; done))); (focus (intro w hSw; (try dsimp only at hSw); go_simp; all_goals (with_reducible rfl))); try simp only [Act.put, List.getElem_toArray, List.getElem_cons_zero, List.getElem_cons_succ, List.setIfInBounds_toArray, List.set_cons_zero, List.set_cons_succ])
                  (refine wpAnyH_take (i := 9) (oi := _) (v := ?_) rfl (by kernel_rfl) (by kernel_rfl) (by kernel_rfl) (fun _ _ _ h => h) (Or.inl ⟨?_, ?_⟩) (by assumption) ?_; rotate_left; (focus (first | rfl | (simp [Region.wanted, yielded]; done))); (focus (intro w hSw; (try dsimp only at hSw); go_simp; all_goals (with_reducible rfl))); try simp only [Act.put, List.getElem_toArray, List.getElem_cons_zero, List.getElem_cons_succ, List.setIfInBounds_toArray, List.set_cons_zero, List.set_cons_succ])
                  have k0 := cell_of_row _ _ 0 _ _ _ HG.out
                  have f0 := free_blk HG.out 0
                  simp at k0 f0
                  (refine wpAnyH_ready (rs := [11]) (by kernel_rfl) (by simp) ?_; refine AllReadyH.cons (o := _) rfl (fun K hK => ?_) AllReadyH.nil; go_simp)
                  (refine hK.out _ _ (OldB.set hHeld hp 0 _) (fun hHeld2 => ?_); clear hK K hHeld; have hHeld := hHeld2; clear hHeld2; try simp only [Act.put, List.getElem_toArray, List.getElem_cons_zero, List.getElem_cons_succ, List.setIfInBounds_toArray, List.set_cons_zero, List.set_cons_succ])
                  (refine wpAnyH_take (i := 12) (oi := _) (v := ?_) rfl (by kernel_rfl) (by kernel_rfl) (by kernel_rfl) (fun _ _ _ h => h) (Or.inl ⟨?_, ?_⟩) (by assumption) ?_; rotate_left; (focus (first | rfl | (simp [Region.wanted, yielded]; done))); (focus (intro w hSw; (try dsimp only at hSw); go_simp; all_goals (with_reducible rfl))); try simp only [Act.put, List.getElem_toArray, List.getElem_cons_zero, List.getElem_cons_succ, List.setIfInBounds_toArray, List.set_cons_zero, List.set_cons_succ])
                  have OW := Lib.hid hHeld
                  (refine wpAnyH_done (by kernel_rfl) ?_ _; refine NoPanic.normal ?_)
                  go_wp2_with fail
                  go_meet
                  first
                    | exact ⟨_, A2, c2, R2, rfl, rfl, Lib.hid ⟨Live.set HG.out M2 C2, E9⟩, OW⟩
                    | exact ⟨_, A2, c2, R2, rfl, rfl, Lib.hid ⟨Live.set HG.out (M2.below ((Below.refl _ _).alloc (Nat.le_refl _) _)) C2, E9⟩, OW⟩
                    | exact ⟨_, A2, c2, R2, rfl, rfl, Lib.hid ⟨Live.new M2 C2, E9⟩, OW⟩
              case rest =>
                obtain ⟨g6, A6, c6, R6, rfl, rfl, LX, OX⟩ := hcut
                generalize wc = v2 at *
                have L6 := Lib.hid LX.out.1
                have E6 := Lib.hid LX.out.2
                have BU := Lib.hid (show OldB u3 v2 from Below.trans BU.out (Below.mono OX.out (Below.size BU.out)))
                clear LX OX K0 K8 f0 f1 f2 f3 f4 f5 PC
                obtain ⟨k0, MV, -, -⟩ := E2.out v2 BU.out
                have k6 := L6.out.cell
                have SB := Lib.hid (rsamem_any A6 (some ⟨b', off', none⟩) c6 c R6 l R6.length n v2 rfl HN.out L6.out.ms MV)
                rw [E6.out, At.sameL_iff.2 rfl] at SB
                clear MV
                go_wp2_with fail
                refine SB.out.mono ?_
                rintro e v3 ⟨rfl, d3⟩
                have BU := Lib.hid (BU.out.then d3)
                obtain ⟨-, -, -, bwv⟩ := E2.out v3 BU.out
                have BWV := Lib.hid bwv
                clear bwv d3 SB k6 k0
                go_wp2_with fail
                go_ret
                exact ⟨rfl, BWV.out⟩
          · have q1 : (id == o.c.id) = false := by simpa using hid
            have q2 : (id != o.c.id) = true := by simpa using hid
            have F4 := Lib.hid (afind_any (some ⟨b, off, none⟩) R4.length c4 R4 id u9 rfl L9.out.ms)
            have LKX := Lib.hid (look_putF_ne (At.validM_iff.1 HV.out).1 o.c hid)
            go_wp2_with fail
            refine F4.out.mono ?_
            rintro e u10 ⟨rfl, b10⟩
            have BU := Lib.hid (Below.trans B9.out (Below.mono b10 (Below.size B9.out)))
            have LU := Lib.hid (L9.out.below b10)
            clear F4 b10 f0 k0 k8 L9 M9 B9 hid q1 q2
            cases hn : At.look (cts l) id with
            | none =>
              obtain rfl : nI = -1 := by rw [NI.out]; exact find_none hn
              have z1 : findR (cts R4) id = -1 := by rw [E4.out]; exact find_none (LKX.out.trans hn)
              rw [z1]
              clear z1
              go_upto_region 12 with fail
              have d1 : decide ((R4.length : Int) ≤ (-1 : Int)) = false := by simp; omega
              have d2 : decide ((n : Int) ≤ (-1 : Int)) = false := by simp; omega
              obtain ⟨k0, -, -, -⟩ := E2.out u10 BU.out
              have k8 := LU.out.cell
              go_quiet (fail)
              have BU := Lib.hid (show OldB u3 _ from below_drewN BU.out nq)
              have LU := Lib.hid (LU.out.below (below_drewN (Below.refl _ _) nq))
              clear k0 k8 d1 d2 hn
              generalize u10.drewN nq = u12 at *
              clear nq
              go_upto_region 14 with fail
              obtain ⟨k0, MU, -, bwu⟩ := E2.out u12 BU.out
              have BWU := Lib.hid bwu
              have MU := Lib.hid MU
              clear bwu
              cases hk : At.look (cts l) o.c.id with
              | none =>
                obtain rfl : kI = -1 := by rw [KI.out]; exact find_none hk
                have DB := Lib.hid (drop_back HV.out HVO.out (by rw [cts_len, ← HN.out]; omega) hk)
                have PL : R4.length = n + 1 := by rw [← cts_len R4, E4.out, put_len_new (At.validM_iff.1 HV.out).1 hk, cts_len, HN.out]
                have DC := Lib.hid (hdrop (c := c4) LU.out.ms o.c.id _ _ E4.out DB.out)
                have k8 := LU.out.cell
                rw [PL] at k8 DC
                have f0 := EO.out u12 BU.out 0 _ rfl
                have wn : IntKind.i64.wrap ((n : Int) + 1) = (n : Int) + 1 := IntWalk.i64_in _ (by omega)
                have PLH := Lib.hid PL
                clear PL hk
                go_wp2_with fail
                refine DC.out.mono ?_
                rintro e v1 g1
                obtain ⟨A6, c6, R6, rfl, M6, E6, C6, d1⟩ := mapE_ok g1
                have L6 := Lib.hid (Live.new M6 C6)
                have E6 := Lib.hid E6
                have d2 := d1.alloc d1.size (.cells #[.slice A6 R6.length c6] 24)
                have LU := Lib.hid (LU.out.below d2)
                have BU := Lib.hid (show OldB u3 _ from BU.out.then d2)
                clear g1 M6 C6 d1 d2 k0 k8 f0 DC MU BWU
                go_upto_region 16 with fail
                generalize v1.alloc (.cells #[.slice A6 R6.length c6] 24) = v2 at *
                generalize v1.heap.size = g6 at *
                obtain ⟨k0, MV, -, -⟩ := E2.out v2 BU.out
                have k6 := L6.out.cell
                have SB := Lib.hid (rsamem_any A6 _ c6 c R6 l R6.length n v2 rfl HN.out L6.out.ms MV)
                rw [E6.out, At.sameL_iff.2 rfl] at SB
                clear MV
                go_wp2_with fail
                refine SB.out.mono ?_
                rintro e v3 ⟨rfl, d3⟩
                have LU := Lib.hid (LU.out.below d3)
                have BU := Lib.hid (BU.out.then d3)
                obtain ⟨k0, -, -, bwv⟩ := E2.out v3 BU.out
                have BWV := Lib.hid bwv
                have k8 := LU.out.cell
                rw [PLH.out] at k8
                clear bwv d3 SB k6
                go_wp2_with fail
                go_ret
                exact ⟨rfl, BWV.out⟩
              | some z =>
                obtain ⟨hpl, hpz, hpf⟩ := find_some (At.validM_iff.1 HV.out).1 hk
                rw [← KI.out] at hpf
                subst hpf
                have PB := Lib.hid (put_back HV.out HVO.out (by rw [cts_len, ← HN.out]; omega) hk)
                generalize At.pos (cts l) o.c.id = pL at *
                have hpl2 : pL < l.length := by rwa [cts_len] at hpl
                have hpz2 : l[pL].c = z := by rw [← hpz]; simp [cts]
                obtain ⟨y', b', off', Y3, Y4, s3, s4, hyc', hA', hb', hy3, hy4, hyo', hys', hcell'⟩ := ms_el MU.out hpl2 hpz2
                first | subst hA' | (obtain ⟨e1, e2⟩ : b' = b6 ∧ off' = o6 := (by injection hA' with h; injection h with h1 h2; exact ⟨h1.symm, h2.symm⟩); subst e1 e2)
                have lU : g4 < u12.heap.size := (Array.getElem?_eq_some_iff.1 LU.out.box).1
                have PC : Hid (∀ v, OldB u12 v → Calls Tryz.prog 25 #[.agg #[.slice (some ⟨b, off, none⟩) R4.length c4], .agg #[.string (mkB z.id), .int .i64 z.kind, .int .i64 z.x, .int .i64 z.y, .slice Y3 z.refs.length s3, .slice Y4 z.tags.length s4]] v (MapE v (cts l, 0))) := Lib.hid (fun v hv => by
                  have := hput (c := c4) (LU.out.below hv).ms y' (hyo'.below hv) (by rw [hyc']; exact hys') _ _ E4.out (by rw [hyc']; exact PB.out) (by have := putF_length (cts l) (At.validM_iff.1 HV.out).1 o.c; rw [cts_len, ← HN.out] at this; omega)
                  unfold roA at this
                  rw [hyc', hy3, hy4] at this
                  exact this)
                have K0 : ∀ v, OldB u12 v → v.cell? ⟨w.heap.size, 0, none⟩ = some (.slice (some ⟨b', off', none⟩) n c) := fun v hv => (E2.out v (Below.trans BU.out (Below.mono hv (Below.size BU.out)))).1
                have K8 : ∀ v, OldB u12 v → v.cell? ⟨g4, 0, none⟩ = some (.slice (some ⟨b, off, none⟩) R4.length c4) := fun v hv => (LU.out.below hv).cell
                have f0 := fun v hv => hcell' 0 _ rfl v hv
                have f1 := fun v hv => hcell' 1 _ rfl v hv
                have f2 := fun v hv => hcell' 2 _ rfl v hv
                have f3 := fun v hv => hcell' 3 _ rfl v hv
                have f4 := fun v hv => hcell' 4 _ rfl v hv
                have f5 := fun v hv => hcell' 5 _ rfl v hv
                simp only [Nat.add_zero] at f0
                have hpn : pL < n := by rw [HN.out]; exact hpl2
                have j1 : (0 : Int) ≤ (pL : Int) := by omega
                have j2 : (pL : Int) < (n : Int) := by omega
                clear hcell' hyo' hys' hy3 hy4 hyc' MU hk hpz hpz2 hpl
                go_upto_region 19 with fail
                clear k0
                go_cut [16, 17] (fun s3 s4 wx => ∃ (p : Nat) (A : Option Addr) (c : Nat) (R : List RO), s3 = .pointer (some ⟨p, 0, none⟩) ∧ s4 = .int .i64 0 ∧ Hid (Live wx p A c R ∧ cts R = cts l) ∧ Hid (OldB u12 wx))
                case first =>
                  (refine wp_region_noPanic ?_; refine wp_region_held_drew (S := (OldB u12)) (by kernel_rfl) ?_ (fun hHeld => ?_); exact Below.drew (Below.refl _ _))
                  (refine wpAnyH_take (i := 0) (oi := _) (v := ?_) rfl (by kernel_rfl) (by kernel_rfl) (by kernel_rfl) (fun _ _ _ h => h) (Or.inl ⟨?_, ?_⟩) (by assumption) ?_; rotate_left; (focus (first | rfl | (simp [Region.wanted, yielded]; done))); (focus (intro w hSw; (try dsimp only at hSw); go_simp; all_goals (with_reducible rfl))); try simp only [Act.put, List.getElem_toArray, List.getElem_cons_zero, List.getElem_cons_succ, List.setIfInBounds_toArray, List.set_cons_zero, List.set_cons_succ])
                  (refine wpAnyH_take (i := 1) (oi := _) (v := ?_) rfl (by kernel_rfl) (by kernel_rfl) (by kernel_rfl) (fun _ _ _ h => h) (Or.inl ⟨?_, ?_⟩) (by assumption) ?_; rotate_left; (focus (first | rfl | (simp [Region.wanted, yielded]; done))); (focus (intro w hSw; (try dsimp only at hSw); go_simp; all_goals (with_reducible rfl))); try simp only [Act.put, List.getElem_toArray, List.getElem_cons_zero, List.getElem_cons_succ, List.setIfInBounds_toArray, List.set_cons_zero, List.set_cons_succ])
                  (refine wpAnyH_take (i := 2) (oi := _) (v := ?_) rfl (by kernel_rfl) (by kernel_rfl) (by kernel_rfl) (fun _ _ _ h => h) (Or.inl ⟨?_, ?_⟩) (by assumption) ?_; rotate_left; (focus (first | rfl | (simp [Region.wanted, yielded]; done))); (focus (intro w hSw; (try dsimp only at hSw); go_simp; all_goals (with_reducible rfl))); try simp only [Act.put, List.getElem_toArray, List.getElem_cons_zero, List.getElem_cons_succ, List.setIfInBounds_toArray, List.set_cons_zero, List.set_cons_succ])
                  (refine wpAnyH_take (i := 3) (oi := _) (v := ?_) rfl (by kernel_rfl) (by kernel_rfl) (by kernel_rfl) (fun _ _ _ h => h) (Or.inl ⟨?_, ?_⟩) (by assumption) ?_; rotate_left; (focus (first | rfl | (simp [Region.wanted, yielded]; done))); (focus (intro w hSw; (try dsimp only at hSw); go_simp; all_goals (with_reducible rfl))); try simp only [Act.put, List.getElem_toArray, List.getElem_cons_zero, List.getElem_cons_succ, List.setIfInBounds_toArray, List.set_cons_zero, List.set_cons_succ])
                  (refine wpAnyH_take (i := 4) (oi := _) (v := ?_) rfl (by kernel_rfl) (by kernel_rfl) (by kernel_rfl) (fun _ _ _ h => h) (Or.inl ⟨?_, ?_⟩) (by assumption) ?_; rotate_left; (focus (first | rfl | (simp [Region.wanted, yielded]; done))); (focus (intro w hSw; (try dsimp only at hSw); go_simp; all_goals (with_reducible rfl))); try simp only [Act.put, List.getElem_toArray, List.getElem_cons_zero, List.getElem_cons_succ, List.setIfInBounds_toArray, List.set_cons_zero, List.set_cons_succ])
                  (refine wpAnyH_take (i := 5) (oi := _) (v := ?_) rfl (by kernel_rfl) (by kernel_rfl) (by kernel_rfl) (fun _ _ _ h => h) (Or.inl ⟨?_, ?_⟩) (by assumption) ?_; rotate_left; (focus (first | rfl | (simp [Region.wanted, yielded]; done))); (focus (intro w hSw; (try dsimp only at hSw); go_simp; all_goals (with_reducible rfl))); try simp only [Act.put, List.getElem_toArray, List.getElem_cons_zero, List.getElem_cons_succ, List.setIfInBounds_toArray, List.set_cons_zero, List.set_cons_succ])
                  (refine wpAnyH_ready (rs := [6, 10]) (by kernel_rfl) (by simp) ?_; refine AllReadyH.cons (o := _) rfl (fun K hK => ?_) (AllReadyH.cons (o := _) rfl (fun K hK => ?_) AllReadyH.nil))
                  · go_simp
                    refine (PC.out _ hHeld).mono ?_
                    rintro e v2 h3
                    obtain ⟨A2, c2, R2, rfl, M2, E9, C2, d2⟩ := mapE_ok h3
                    clear h3
                    (refine hK.out _ _ (OldB.then hHeld d2) (fun hHeld2 => ?_); clear hK K hHeld; have hHeld := hHeld2; clear hHeld2; try simp only [Act.put, List.getElem_toArray, List.getElem_cons_zero, List.getElem_cons_succ, List.setIfInBounds_toArray, List.set_cons_zero, List.set_cons_succ])
                    (refine wpAnyH_take (i := 7) (oi := _) (v := ?_) rfl (by kernel_rfl) (by kernel_rfl) (by kernel_rfl) (fun _ _ _ h => h) (Or.inl ⟨?_, ?_⟩) (by assumption) ?_; rotate_left; (focus (first | rfl | (simp [Region.wanted, yielded]; done))); (focus (intro w hSw; (try dsimp only at hSw); go_simp; all_goals (with_reducible rfl))); try simp only [Act.put, List.getElem_toArray, List.getElem_cons_zero, List.getElem_cons_succ, List.setIfInBounds_toArray, List.set_cons_zero, List.set_cons_succ])
                    (refine wpAnyH_take (i := 8) (oi := _) (v := ?_) rfl (by kernel_rfl) (by kernel_rfl) (by kernel_rfl) (fun _ _ _ h => h) (Or.inl ⟨?_, ?_⟩) (by assumption) ?_; rotate_left; (focus (first | rfl | (simp [Region.wanted, yielded]; done))); (focus (intro w hSw; (try dsimp only at hSw); go_simp; all_goals (with_reducible rfl))); try simp only [Act.put, List.getElem_toArray, List.getElem_cons_zero, List.getElem_cons_succ, List.setIfInBounds_toArray, List.set_cons_zero, List.set_cons_succ])
                    (refine wpAnyH_take (i := 9) (oi := _) (v := ?_) rfl (by kernel_rfl) (by kernel_rfl) (by kernel_rfl) (fun _ _ _ h => h) (Or.inl ⟨?_, ?_⟩) (by assumption) ?_; rotate_left; (focus (first | rfl | (simp [Region.wanted, yielded]; done))); (focus (intro w hSw; (try dsimp only at hSw); go_simp; all_goals (with_reducible rfl))); try simp only [Act.put, List.getElem_toArray, List.getElem_cons_zero, List.getElem_cons_succ, List.setIfInBounds_toArray, List.set_cons_zero, List.set_cons_succ])
                    have hp := Below.size (show Below _ _ _ from hHeld)
                    have HH0 := Lib.hid hHeld
                    (refine wpAnyH_ready (rs := [10]) (by kernel_rfl) (by simp) ?_; refine AllReadyH.cons (o := _) rfl (fun K hK => ?_) AllReadyH.nil; go_simp)
                    (refine hK.out _ _ (OldB.alloc hHeld _) (fun hHeld2 => ?_); clear hK K hHeld; have hHeld := hHeld2; clear hHeld2; try simp only [Act.put, List.getElem_toArray, List.getElem_cons_zero, List.getElem_cons_succ, List.setIfInBounds_toArray, List.set_cons_zero, List.set_cons_succ])
                    first | have HG := Lib.hid (box_new hHeld) | have HG := Lib.hid (box_newD hHeld)
                    try simp only [World.size_alloc, World.size_drew] at hp
                    try simp only [World.size_alloc, World.size_drew] at HG
                    have k0 := cell_of_row _ _ 0 _ _ _ HG.out
                    have f0 := free_blk HG.out 0
                    simp at k0 f0
                    (refine wpAnyH_ready (rs := [11]) (by kernel_rfl) (by simp) ?_; refine AllReadyH.cons (o := _) rfl (fun K hK => ?_) AllReadyH.nil; go_simp)
                    (refine hK.out _ _ (OldB.alloc HH0.out _) (fun hHeld2 => ?_); clear hK K hHeld; have hHeld := hHeld2; clear hHeld2; try simp only [Act.put, List.getElem_toArray, List.getElem_cons_zero, List.getElem_cons_succ, List.setIfInBounds_toArray, List.set_cons_zero, List.set_cons_succ])
                    (refine wpAnyH_take (i := 12) (oi := _) (v := ?_) rfl (by kernel_rfl) (by kernel_rfl) (by kernel_rfl) (fun _ _ _ h => h) (Or.inl ⟨?_, ?_⟩) (by assumption) ?_; rotate_left; (focus (first | rfl | (simp [Region.wanted, yielded]; done))); (focus (intro w hSw; (try dsimp only at hSw); go_simp; all_goals (with_reducible rfl))); try simp only [Act.put, List.getElem_toArray, List.getElem_cons_zero, List.getElem_cons_succ, List.setIfInBounds_toArray, List.set_cons_zero, List.set_cons_succ])
                    have OW := Lib.hid hHeld
                    (refine wpAnyH_done (by kernel_rfl) ?_ _; refine NoPanic.normal ?_)
                    go_wp2_with fail
                    go_meet
                    first
                      | exact ⟨_, A2, c2, R2, rfl, rfl, Lib.hid ⟨Live.set HG.out M2 C2, E9⟩, OW⟩
                      | exact ⟨_, A2, c2, R2, rfl, rfl, Lib.hid ⟨Live.set HG.out (M2.below ((Below.refl _ _).alloc (Nat.le_refl _) _)) C2, E9⟩, OW⟩
                      | exact ⟨_, A2, c2, R2, rfl, rfl, Lib.hid ⟨Live.new M2 C2, E9⟩, OW⟩
                  · go_simp
                    have hp := Below.size (show Below _ _ _ from hHeld)
                    have HH0 := Lib.hid hHeld
                    (refine hK.out _ _ (OldB.alloc hHeld _) (fun hHeld2 => ?_); clear hK K hHeld; have hHeld := hHeld2; clear hHeld2; try simp only [Act.put, List.getElem_toArray, List.getElem_cons_zero, List.getElem_cons_succ, List.setIfInBounds_toArray, List.set_cons_zero, List.set_cons_succ])
                    first | have HG := Lib.hid (box_new hHeld) | have HG := Lib.hid (box_newD hHeld)
                    try simp only [World.size_alloc, World.size_drew] at hp
                    try simp only [World.size_alloc, World.size_drew] at HG
                    (refine wpAnyH_ready (rs := [6]) (by kernel_rfl) (by simp) ?_; refine AllReadyH.cons (o := _) rfl (fun K hK => ?_) AllReadyH.nil; go_simp)
                    refine (PC.out _ hHeld).mono ?_
                    rintro e v2 h3
                    obtain ⟨A2, c2, R2, rfl, M2, E9, C2, d2⟩ := mapE_ok h3
                    clear h3
                    (refine hK.out _ _ (OldB.then hHeld d2) (fun hHeld2 => ?_); clear hK K hHeld; have hHeld := hHeld2; clear hHeld2; try simp only [Act.put, List.getElem_toArray, List.getElem_cons_zero, List.getElem_cons_succ, List.setIfInBounds_toArray, List.set_cons_zero, List.set_cons_succ])
                    have HG := Lib.hid ((d2.block _ (lt_of_block HG.out)).trans HG.out)
                    (refine wpAnyH_take (i := 7) (oi := _) (v := ?_) rfl (by kernel_rfl) (by kernel_rfl) (by kernel_rfl) (fun _ _ _ h => h) (Or.inl ⟨?_, ?_⟩) (by assumption) ?_; rotate_left; (focus (first | rfl | (simp [Region.wanted, yielded]; done))); (focus (intro w hSw; (try dsimp only at hSw); go_simp; all_goals (with_reducible rfl))); try simp only [Act.put, List.getElem_toArray, List.getElem_cons_zero, List.getElem_cons_succ, List.setIfInBounds_toArray, List.set_cons_zero, List.set_cons_succ])
                    (refine wpAnyH_take (i := 8) (oi := _) (v := ?_) rfl (by kernel_rfl) (by kernel_rfl) (by kernel_rfl) (fun _ _ _ h => h) (Or.inl ⟨?_, ?_⟩) (by assumption) ?_; rotate_left; (focus (first | rfl | (simp [Region.wanted, yielded]; done))); (focus (intro w hSw; (try dsimp only at hSw); go_simp; all_goals (with_reducible rfl))); try simp only [Act.put, List.getElem_toArray, List.getElem_cons_zero, List.getElem_cons_succ, List.setIfInBounds_toArray, List.set_cons_zero, List.set_cons_succ])
                    (refine wpAnyH_take (i := 9) (oi := _) (v := ?_) rfl (by kernel_rfl) (by kernel_rfl) (by kernel_rfl) (fun _ _ _ h => h) (Or.inl ⟨?_, ?_⟩) (by assumption) ?_; rotate_left; (focus (first | rfl | (simp [Region.wanted, yielded]; done))); (focus (intro w hSw; (try dsimp only at hSw); go_simp; all_goals (with_reducible rfl))); try simp only [Act.put, List.getElem_toArray, List.getElem_cons_zero, List.getElem_cons_succ, List.setIfInBounds_toArray, List.set_cons_zero, List.set_cons_succ])
                    have k0 := cell_of_row _ _ 0 _ _ _ HG.out
                    have f0 := free_blk HG.out 0
                    simp at k0 f0
                    (refine wpAnyH_ready (rs := [11]) (by kernel_rfl) (by simp) ?_; refine AllReadyH.cons (o := _) rfl (fun K hK => ?_) AllReadyH.nil; go_simp)
                    (refine hK.out _ _ (OldB.set hHeld hp 0 _) (fun hHeld2 => ?_); clear hK K hHeld; have hHeld := hHeld2; clear hHeld2; try simp only [Act.put, List.getElem_toArray, List.getElem_cons_zero, List.getElem_cons_succ, List.setIfInBounds_toArray, List.set_cons_zero, List.set_cons_succ])
                    (refine wpAnyH_take (i := 12) (oi := _) (v := ?_) rfl (by kernel_rfl) (by kernel_rfl) (by kernel_rfl) (fun _ _ _ h => h) (Or.inl ⟨?_, ?_⟩) (by assumption) ?_; rotate_left; (focus (first | rfl | (simp [Region.wanted, yielded]; done))); (focus (intro w hSw; (try dsimp only at hSw); go_simp; all_goals (with_reducible rfl))); try simp only [Act.put, List.getElem_toArray, List.getElem_cons_zero, List.getElem_cons_succ, List.setIfInBounds_toArray, List.set_cons_zero, List.set_cons_succ])
                    have OW := Lib.hid hHeld
                    (refine wpAnyH_done (by kernel_rfl) ?_ _; refine NoPanic.normal ?_)
                    go_wp2_with fail
                    go_meet
                    first
                      | exact ⟨_, A2, c2, R2, rfl, rfl, Lib.hid ⟨Live.set HG.out M2 C2, E9⟩, OW⟩
                      | exact ⟨_, A2, c2, R2, rfl, rfl, Lib.hid ⟨Live.set HG.out (M2.below ((Below.refl _ _).alloc (Nat.le_refl _) _)) C2, E9⟩, OW⟩
                      | exact ⟨_, A2, c2, R2, rfl, rfl, Lib.hid ⟨Live.new M2 C2, E9⟩, OW⟩
                case rest =>
                  obtain ⟨g6, A6, c6, R6, rfl, rfl, LX, OX⟩ := hcut
                  generalize wc = v2 at *
                  have L6 := Lib.hid LX.out.1
                  have E6 := Lib.hid LX.out.2
                  have BU := Lib.hid (show OldB u3 v2 from Below.trans BU.out (Below.mono OX.out (Below.size BU.out)))
                  clear LX OX K0 K8 f0 f1 f2 f3 f4 f5 PC
                  obtain ⟨k0, MV, -, -⟩ := E2.out v2 BU.out
                  have k6 := L6.out.cell
                  have SB := Lib.hid (rsamem_any A6 (some ⟨b', off', none⟩) c6 c R6 l R6.length n v2 rfl HN.out L6.out.ms MV)
                  rw [E6.out, At.sameL_iff.2 rfl] at SB
                  clear MV
                  go_wp2_with fail
                  refine SB.out.mono ?_
                  rintro e v3 ⟨rfl, d3⟩
                  have BU := Lib.hid (BU.out.then d3)
                  obtain ⟨-, -, -, bwv⟩ := E2.out v3 BU.out
                  have BWV := Lib.hid bwv
                  clear bwv d3 SB k6 k0
                  go_wp2_with fail
                  go_ret
                  exact ⟨rfl, BWV.out⟩
            | some z0 =>
              obtain ⟨hpL, hzL, hfL⟩ := find_some (At.validM_iff.1 HV.out).1 hn
              obtain ⟨hpX, hzX, hfX⟩ := find_some XS.out (LKX.out.trans hn)
              rw [← NI.out] at hfL
              subst hfL
              obtain ⟨q4, hq4e⟩ : ∃ q, At.pos (At.putF (cts l) o.c) id = q := ⟨_, rfl⟩
              have hfX2 : findR (cts R4) id = (q4 : Int) := by rw [E4.out, hfX, hq4e]
              rw [hfX2]
              clear hfX2
              have hq3 : At.pos (cts l) id < l.length := by rwa [cts_len] at hpL
              have hq4 : q4 < R4.length := by rw [← hq4e, ← cts_len R4, E4.out]; exact hpX
              have z3 : l[At.pos (cts l) id].c = z0 := by rw [← hzL]; simp [cts]
              have z4 : R4[q4].c = z0 := by
                have h1 : (cts R4)[q4]? = some z0 := by rw [← hq4e, E4.out, List.getElem?_eq_getElem hpX, hzX]
                rw [cts_get R4 hq4] at h1
                exact Option.some.inj h1
              generalize At.pos (cts l) id = q3 at *
              clear hfX
              have Z3 := Lib.hid z3
              have Z4 := Lib.hid z4
              have hq3n : q3 < n := by rw [HN.out]; exact hq3
              clear hpL hzL hpX hzX z3 z4 hn hq4e
              have MU := (E2.out u10 BU.out).2.1
              obtain ⟨y5, b5, o5, W1, W2, p1, p2, hyc5, hA5, hb5, hy51, hy52, hyo5, hys5, hcell5⟩ := ms_el LU.out.ms hq4 Z4.out
              obtain rfl : b = b5 := by injection hA5 with h; injection h
              obtain rfl : off = o5 := by injection hA5 with h; injection h
              obtain ⟨y6, b6, o6, W3, W4, p3, p4, hyc6, hA6, hb6, hy61, hy62, hyo6, hys6, hcell6⟩ := ms_el MU hq3 Z3.out
              subst hA6
              have SM : Hid (∀ u, OldB u10 u → Calls Tryz.prog 44 #[.agg #[.string (mkB z0.id), .int .i64 z0.kind, .int .i64 z0.x, .int .i64 z0.y, .slice W1 z0.refs.length p1, .slice W2 z0.tags.length p2], .agg #[.string (mkB z0.id), .int .i64 z0.kind, .int .i64 z0.x, .int .i64 z0.y, .slice W3 z0.refs.length p3, .slice W4 z0.tags.length p4]] u fun e w' => e = .returned (.bool true) ∧ Below u.heap.size u w') := Lib.hid (fun u hu => by
                have := same_any y5 y6 u (hyo5.below hu) (hyo6.below hu) (by rw [hyc5]; exact hys5.1) (by rw [hyc6]; exact hys6.1)
                unfold roA at this
                rw [hyc5, hyc6, hy51, hy52, hy61, hy62, At.sameO_refl] at this
                exact this)
              have HC5 := Lib.hid hcell5
              have HC6 := Lib.hid hcell6
              have K0 : ∀ u, OldB u10 u → u.cell? ⟨w.heap.size, 0, none⟩ = some (.slice (some ⟨b6, o6, none⟩) n c) := fun u hu => (E2.out u (Below.trans BU.out (Below.mono hu (Below.size BU.out)))).1
              have K8 : ∀ u, OldB u10 u → u.cell? ⟨g4, 0, none⟩ = some (.slice (some ⟨b, off, none⟩) R4.length c4) := fun u hu => (LU.out.below hu).cell
              have i1 : decide ((q4 : Int) < 0) = false := by simp
              have i2 : decide ((R4.length : Int) ≤ (q4 : Int)) = false := by simp; omega
              have i5 : decide (R4.length ≤ q4) = false := by simp; omega
              have i3 : (0 : Int) ≤ (q4 : Int) := by omega
              have i4 : (q4 : Int) < (R4.length : Int) := by omega
              have i6 : decide ((0 : Int) ≤ (q4 : Int)) = true := by simp
              have j1 : decide ((q3 : Int) < 0) = false := by simp
              have j2 : decide ((n : Int) ≤ (q3 : Int)) = false := by simp; omega
              have j5 : decide (n ≤ q3) = false := by simp; omega
              have j3 : (0 : Int) ≤ (q3 : Int) := by omega
              have j4 : (q3 : Int) < (n : Int) := by omega
              clear hcell5 hcell6 hyc5 hyc6 hy51 hy52 hy61 hy62 hyo5 hyo6 hys5 hys6 MU hA5
              go_upto_region 12 with fail
              (refine wp_region_noPanic ?_; refine wp_region_held_drew (S := (OldB u10)) (by kernel_rfl) ?_ (fun hHeld => ?_); exact Below.drew (Below.refl _ _))
              (refine wpAnyH_take (i := 0) (oi := _) (v := ?_) rfl (by kernel_rfl) (by kernel_rfl) (by kernel_rfl) (fun _ _ _ h => h) (Or.inl ⟨?_, ?_⟩) (by assumption) ?_; rotate_left; (focus (first | rfl | (simp [Region.wanted, yielded]; done))); (focus (intro w hSw; (try dsimp only at hSw); go_simp; all_goals (with_reducible rfl))); try simp only [Act.put, List.getElem_toArray, List.getElem_cons_zero, List.getElem_cons_succ, List.setIfInBounds_toArray, List.set_cons_zero, List.set_cons_succ])
              (refine wpAnyH_take (i := 1) (oi := _) (v := ?_) rfl (by kernel_rfl) (by kernel_rfl) (by kernel_rfl) (fun _ _ _ h => h) (Or.inl ⟨?_, ?_⟩) (by assumption) ?_; rotate_left; (focus (first | rfl | (simp [Region.wanted, yielded]; done))); (focus (intro w hSw; (try dsimp only at hSw); go_simp; all_goals (with_reducible rfl))); try simp only [Act.put, List.getElem_toArray, List.getElem_cons_zero, List.getElem_cons_succ, List.setIfInBounds_toArray, List.set_cons_zero, List.set_cons_succ])
              (refine wpAnyH_take (i := 2) (oi := _) (v := ?_) rfl (by kernel_rfl) (by kernel_rfl) (by kernel_rfl) (fun _ _ _ h => h) (Or.inl ⟨?_, ?_⟩) (by assumption) ?_; rotate_left; (focus (first | rfl | (simp [Region.wanted, yielded]; done))); (focus (intro w hSw; (try dsimp only at hSw); go_simp; all_goals (with_reducible rfl))); try simp only [Act.put, List.getElem_toArray, List.getElem_cons_zero, List.getElem_cons_succ, List.setIfInBounds_toArray, List.set_cons_zero, List.set_cons_succ])
              (refine wpAnyH_take (i := 3) (oi := _) (v := ?_) rfl (by kernel_rfl) (by kernel_rfl) (by kernel_rfl) (fun _ _ _ h => h) (Or.inl ⟨?_, ?_⟩) (by assumption) ?_; rotate_left; (focus (first | rfl | (simp [Region.wanted, yielded]; done))); (focus (intro w hSw; (try dsimp only at hSw); go_simp; all_goals (with_reducible rfl))); try simp only [Act.put, List.getElem_toArray, List.getElem_cons_zero, List.getElem_cons_succ, List.setIfInBounds_toArray, List.set_cons_zero, List.set_cons_succ])
              (refine wpAnyH_take (i := 4) (oi := _) (v := ?_) rfl (by kernel_rfl) (by kernel_rfl) (by kernel_rfl) (fun _ _ _ h => h) (Or.inl ⟨?_, ?_⟩) (by assumption) ?_; rotate_left; (focus (first | rfl | (simp [Region.wanted, yielded]; done))); (focus (intro w hSw; (try dsimp only at hSw); go_simp; all_goals (with_reducible rfl))); try simp only [Act.put, List.getElem_toArray, List.getElem_cons_zero, List.getElem_cons_succ, List.setIfInBounds_toArray, List.set_cons_zero, List.set_cons_succ])
              (refine wpAnyH_take (i := 5) (oi := _) (v := ?_) rfl (by kernel_rfl) (by kernel_rfl) (by kernel_rfl) (fun _ _ _ h => h) (Or.inl ⟨?_, ?_⟩) (by assumption) ?_; rotate_left; (focus (first | rfl | (simp [Region.wanted, yielded]; done))); (focus (intro w hSw; (try dsimp only at hSw); go_simp; all_goals (with_reducible rfl))); try simp only [Act.put, List.getElem_toArray, List.getElem_cons_zero, List.getElem_cons_succ, List.setIfInBounds_toArray, List.set_cons_zero, List.set_cons_succ])
              (refine wpAnyH_take (i := 6) (oi := _) (v := ?_) rfl (by kernel_rfl) (by kernel_rfl) (by kernel_rfl) (fun _ _ _ h => h) (Or.inl ⟨?_, ?_⟩) (by assumption) ?_; rotate_left; (focus (first | rfl | (simp [Region.wanted, yielded]; done))); (focus (intro w hSw; (try dsimp only at hSw); go_simp; all_goals (with_reducible rfl))); try simp only [Act.put, List.getElem_toArray, List.getElem_cons_zero, List.getElem_cons_succ, List.setIfInBounds_toArray, List.set_cons_zero, List.set_cons_succ])
              (refine wpAnyH_take (i := 7) (oi := _) (v := ?_) rfl (by kernel_rfl) (by kernel_rfl) (by kernel_rfl) (fun _ _ _ h => h) (Or.inl ⟨?_, ?_⟩) (by assumption) ?_; rotate_left; (focus kernel_rfl); (focus (intro w hSw; (try dsimp only at hSw); go_simp; all_goals (with_reducible rfl))); try simp only [Act.put, List.getElem_toArray, List.getElem_cons_zero, List.getElem_cons_succ, List.setIfInBounds_toArray, List.set_cons_zero, List.set_cons_succ])
              (refine wpAnyH_take (i := 8) (oi := _) (v := ?_) rfl (by kernel_rfl) (by kernel_rfl) (by kernel_rfl) (fun _ _ _ h => h) (Or.inl ⟨?_, ?_⟩) (by assumption) ?_; rotate_left; (focus kernel_rfl); (focus (intro w hSw; (try dsimp only at hSw); go_simp; all_goals (with_reducible rfl))); try simp only [Act.put, List.getElem_toArray, List.getElem_cons_zero, List.getElem_cons_succ, List.setIfInBounds_toArray, List.set_cons_zero, List.set_cons_succ])
              (refine wpAnyH_take (i := 9) (oi := _) (v := ?_) rfl (by kernel_rfl) (by kernel_rfl) (by kernel_rfl) (fun _ _ _ h => h) (Or.inl ⟨?_, ?_⟩) (by assumption) ?_; rotate_left; (focus kernel_rfl); (focus (intro w hSw; (try dsimp only at hSw); go_simp; all_goals (with_reducible rfl))); try simp only [Act.put, List.getElem_toArray, List.getElem_cons_zero, List.getElem_cons_succ, List.setIfInBounds_toArray, List.set_cons_zero, List.set_cons_succ])
              (refine wpAnyH_take (i := 10) (oi := _) (v := ?_) rfl (by kernel_rfl) (by kernel_rfl) (by kernel_rfl) (fun _ _ _ h => h) (Or.inl ⟨?_, ?_⟩) (by assumption) ?_; rotate_left; (focus kernel_rfl); (focus (intro w hSw; (try dsimp only at hSw); go_simp; all_goals (with_reducible rfl))); try simp only [Act.put, List.getElem_toArray, List.getElem_cons_zero, List.getElem_cons_succ, List.setIfInBounds_toArray, List.set_cons_zero, List.set_cons_succ])
              (refine wpAnyH_take (i := 11) (oi := _) (v := ?_) rfl (by kernel_rfl) (by kernel_rfl) (by kernel_rfl) (fun _ _ _ h => h) (Or.inl ⟨?_, ?_⟩) (by assumption) ?_; rotate_left; (focus (first | rfl | (simp [Region.wanted, yielded]; done))); (focus (intro w hSw; (try dsimp only at hSw); go_simp; all_goals (with_reducible rfl))); try simp only [Act.put, List.getElem_toArray, List.getElem_cons_zero, List.getElem_cons_succ, List.setIfInBounds_toArray, List.set_cons_zero, List.set_cons_succ])
              (refine wpAnyH_take (i := 12) (oi := _) (v := ?_) rfl (by kernel_rfl) (by kernel_rfl) (by kernel_rfl) (fun _ _ _ h => h) (Or.inl ⟨?_, ?_⟩) (by assumption) ?_; rotate_left; (focus (first | rfl | (simp [Region.wanted, yielded]; done))); (focus (intro w hSw; (try dsimp only at hSw); go_simp; all_goals (with_reducible rfl))); try simp only [Act.put, List.getElem_toArray, List.getElem_cons_zero, List.getElem_cons_succ, List.setIfInBounds_toArray, List.set_cons_zero, List.set_cons_succ])
              (refine wpAnyH_take (i := 13) (oi := _) (v := ?_) rfl (by kernel_rfl) (by kernel_rfl) (by kernel_rfl) (fun _ _ _ h => h) (Or.inl ⟨?_, ?_⟩) (by assumption) ?_; rotate_left; (focus (first | rfl | (simp [Region.wanted, yielded]; done))); (focus (intro w hSw; (try dsimp only at hSw); go_simp; all_goals (with_reducible rfl))); try simp only [Act.put, List.getElem_toArray, List.getElem_cons_zero, List.getElem_cons_succ, List.setIfInBounds_toArray, List.set_cons_zero, List.set_cons_succ])
              (refine wpAnyH_take (i := 14) (oi := _) (v := ?_) rfl (by kernel_rfl) (by kernel_rfl) (by kernel_rfl) (fun _ _ _ h => h) (Or.inl ⟨?_, ?_⟩) (by assumption) ?_; rotate_left; (focus kernel_rfl); (focus (intro w hSw; (try dsimp only at hSw); go_simp; all_goals (with_reducible rfl))); try simp only [Act.put, List.getElem_toArray, List.getElem_cons_zero, List.getElem_cons_succ, List.setIfInBounds_toArray, List.set_cons_zero, List.set_cons_succ])
              (refine wpAnyH_take (i := 15) (oi := _) (v := ?_) rfl (by kernel_rfl) (by kernel_rfl) (by kernel_rfl) (fun _ _ _ h => h) (Or.inl ⟨?_, ?_⟩) (by assumption) ?_; rotate_left; (focus kernel_rfl); (focus (intro w hSw; (try dsimp only at hSw); go_simp; all_goals (with_reducible rfl))); try simp only [Act.put, List.getElem_toArray, List.getElem_cons_zero, List.getElem_cons_succ, List.setIfInBounds_toArray, List.set_cons_zero, List.set_cons_succ])
              (refine wpAnyH_take (i := 16) (oi := _) (v := ?_) rfl (by kernel_rfl) (by kernel_rfl) (by kernel_rfl) (fun _ _ _ h => h) (Or.inl ⟨?_, ?_⟩) (by assumption) ?_; rotate_left; (focus kernel_rfl); (focus (intro w hSw; (try dsimp only at hSw); go_simp; all_goals (with_reducible rfl))); try simp only [Act.put, List.getElem_toArray, List.getElem_cons_zero, List.getElem_cons_succ, List.setIfInBounds_toArray, List.set_cons_zero, List.set_cons_succ])
              (refine wpAnyH_take (i := 17) (oi := _) (v := ?_) rfl (by kernel_rfl) (by kernel_rfl) (by kernel_rfl) (fun _ _ _ h => h) (Or.inl ⟨?_, ?_⟩) (by assumption) ?_; rotate_left; (focus kernel_rfl); (focus (intro w hSw; (try dsimp only at hSw); go_simp; all_goals (with_reducible rfl))); try simp only [Act.put, List.getElem_toArray, List.getElem_cons_zero, List.getElem_cons_succ, List.setIfInBounds_toArray, List.set_cons_zero, List.set_cons_succ])
              (refine wpAnyH_take (i := 18) (oi := _) (v := ?_) rfl (by kernel_rfl) (by kernel_rfl) (by kernel_rfl) (fun _ _ _ h => h) (Or.inl ⟨?_, ?_⟩) (by assumption) ?_; rotate_left; (focus (first | rfl | (simp [Region.wanted, yielded]; done))); (focus (intro w hSw; (try dsimp only at hSw); go_simp; all_goals (with_reducible rfl))); try simp only [Act.put, List.getElem_toArray, List.getElem_cons_zero, List.getElem_cons_succ, List.setIfInBounds_toArray, List.set_cons_zero, List.set_cons_succ])
              (refine wpAnyH_take (i := 19) (oi := _) (v := ?_) rfl (by kernel_rfl) (by kernel_rfl) (by kernel_rfl) (fun _ _ _ h => h) (Or.inl ⟨?_, ?_⟩) (by assumption) ?_; rotate_left; (focus (first | rfl | (simp [Region.wanted, yielded]; done))); (focus (intro w hSw; (try dsimp only at hSw); go_simp; all_goals (with_reducible rfl))); try simp only [Act.put, List.getElem_toArray, List.getElem_cons_zero, List.getElem_cons_succ, List.setIfInBounds_toArray, List.set_cons_zero, List.set_cons_succ])
              (refine wpAnyH_take (i := 20) (oi := _) (v := ?_) rfl (by kernel_rfl) (by kernel_rfl) (by kernel_rfl) (fun _ _ _ h => h) (Or.inl ⟨?_, ?_⟩) (by assumption) ?_; rotate_left; (focus (first | rfl | (simp [Region.wanted, yielded]; done))); (focus (intro w hSw; (try dsimp only at hSw); go_simp; all_goals (with_reducible rfl))); try simp only [Act.put, List.getElem_toArray, List.getElem_cons_zero, List.getElem_cons_succ, List.setIfInBounds_toArray, List.set_cons_zero, List.set_cons_succ])
              (refine wpAnyH_take (i := 21) (oi := _) (v := ?_) rfl (by kernel_rfl) (by kernel_rfl) (by kernel_rfl) (fun _ _ _ h => h) (Or.inl ⟨?_, ?_⟩) (by assumption) ?_; rotate_left; (focus kernel_rfl); (focus (intro w hSw; (try dsimp only at hSw); go_simp; all_goals (with_reducible rfl))); try simp only [Act.put, List.getElem_toArray, List.getElem_cons_zero, List.getElem_cons_succ, List.setIfInBounds_toArray, List.set_cons_zero, List.set_cons_succ])
              (refine wpAnyH_take (i := 22) (oi := _) (v := ?_) rfl (by kernel_rfl) (by kernel_rfl) (by kernel_rfl) (fun _ _ _ h => h) (Or.inl ⟨?_, ?_⟩) (by assumption) ?_; rotate_left; (focus kernel_rfl); (focus (intro w hSw; (try dsimp only at hSw); go_simp; all_goals (with_reducible rfl))); try simp only [Act.put, List.getElem_toArray, List.getElem_cons_zero, List.getElem_cons_succ, List.setIfInBounds_toArray, List.set_cons_zero, List.set_cons_succ])
              (refine wpAnyH_take (i := 23) (oi := _) (v := ?_) rfl (by kernel_rfl) (by kernel_rfl) (by kernel_rfl) (fun _ _ _ h => h) (Or.inl ⟨?_, ?_⟩) (by assumption) ?_; rotate_left; (focus (first | rfl | (simp [Region.wanted, yielded]; done))); (focus (intro w hSw; (try dsimp only at hSw); go_simp; all_goals (with_reducible rfl))); try simp only [Act.put, List.getElem_toArray, List.getElem_cons_zero, List.getElem_cons_succ, List.setIfInBounds_toArray, List.set_cons_zero, List.set_cons_succ])
              (refine wpAnyH_take (i := 24) (oi := _) (v := ?_) rfl (by kernel_rfl) (by kernel_rfl) (by kernel_rfl) (fun _ _ _ h => h) (Or.inl ⟨?_, ?_⟩) (by assumption) ?_; rotate_left; (focus kernel_rfl); (focus (intro w hSw; (try dsimp only at hSw); go_simp; all_goals (with_reducible rfl))); try simp only [Act.put, List.getElem_toArray, List.getElem_cons_zero, List.getElem_cons_succ, List.setIfInBounds_toArray, List.set_cons_zero, List.set_cons_succ])
              (refine wpAnyH_take (i := 25) (oi := _) (v := ?_) rfl (by kernel_rfl) (by kernel_rfl) (by kernel_rfl) (fun _ _ _ h => h) (Or.inl ⟨?_, ?_⟩) (by assumption) ?_; rotate_left; (focus kernel_rfl); (focus (intro w hSw; (try dsimp only at hSw); go_simp; all_goals (with_reducible rfl))); try simp only [Act.put, List.getElem_toArray, List.getElem_cons_zero, List.getElem_cons_succ, List.setIfInBounds_toArray, List.set_cons_zero, List.set_cons_succ])
              (refine wpAnyH_take (i := 26) (oi := _) (v := ?_) rfl (by kernel_rfl) (by kernel_rfl) (by kernel_rfl) (fun _ _ _ h => h) (Or.inl ⟨?_, ?_⟩) (by assumption) ?_; rotate_left; (focus kernel_rfl); (focus (intro w hSw; (try dsimp only at hSw); go_simp; all_goals (with_reducible rfl))); try simp only [Act.put, List.getElem_toArray, List.getElem_cons_zero, List.getElem_cons_succ, List.setIfInBounds_toArray, List.set_cons_zero, List.set_cons_succ])
              have f0 := fun u hu => HC5.out 0 _ rfl u hu
              have f1 := fun u hu => HC5.out 1 _ rfl u hu
              have f2 := fun u hu => HC5.out 2 _ rfl u hu
              have f3 := fun u hu => HC5.out 3 _ rfl u hu
              have f4 := fun u hu => HC5.out 4 _ rfl u hu
              have f5 := fun u hu => HC5.out 5 _ rfl u hu
              simp only [Nat.add_zero] at f0
              (refine wpAnyH_take (i := 27) (oi := _) (v := ?_) rfl (by kernel_rfl) (by kernel_rfl) (by kernel_rfl) (fun _ _ _ h => h) (Or.inl ⟨?_, ?_⟩) (by assumption) ?_; rotate_left; (focus kernel_rfl); (focus (intro w hSw; (try dsimp only at hSw); go_simp; all_goals (with_reducible rfl))); try simp only [Act.put, List.getElem_toArray, List.getElem_cons_zero, List.getElem_cons_succ, List.setIfInBounds_toArray, List.set_cons_zero, List.set_cons_succ])
              clear f0 f1 f2 f3 f4 f5
              (refine wpAnyH_take (i := 28) (oi := _) (v := ?_) rfl (by kernel_rfl) (by kernel_rfl) (by kernel_rfl) (fun _ _ _ h => h) (Or.inl ⟨?_, ?_⟩) (by assumption) ?_; rotate_left; (focus kernel_rfl); (focus (intro w hSw; (try dsimp only at hSw); go_simp; all_goals (with_reducible rfl))); try simp only [Act.put, List.getElem_toArray, List.getElem_cons_zero, List.getElem_cons_succ, List.setIfInBounds_toArray, List.set_cons_zero, List.set_cons_succ])
              (refine wpAnyH_take (i := 29) (oi := _) (v := ?_) rfl (by kernel_rfl) (by kernel_rfl) (by kernel_rfl) (fun _ _ _ h => h) (Or.inl ⟨?_, ?_⟩) (by assumption) ?_; rotate_left; (focus kernel_rfl); (focus (intro w hSw; (try dsimp only at hSw); go_simp; all_goals (with_reducible rfl))); try simp only [Act.put, List.getElem_toArray, List.getElem_cons_zero, List.getElem_cons_succ, List.setIfInBounds_toArray, List.set_cons_zero, List.set_cons_succ])
              (refine wpAnyH_take (i := 30) (oi := _) (v := ?_) rfl (by kernel_rfl) (by kernel_rfl) (by kernel_rfl) (fun _ _ _ h => h) (Or.inl ⟨?_, ?_⟩) (by assumption) ?_; rotate_left; (focus kernel_rfl); (focus (intro w hSw; (try dsimp only at hSw); go_simp; all_goals (with_reducible rfl))); try simp only [Act.put, List.getElem_toArray, List.getElem_cons_zero, List.getElem_cons_succ, List.setIfInBounds_toArray, List.set_cons_zero, List.set_cons_succ])
              (refine wpAnyH_take (i := 31) (oi := _) (v := ?_) rfl (by kernel_rfl) (by kernel_rfl) (by kernel_rfl) (fun _ _ _ h => h) (Or.inl ⟨?_, ?_⟩) (by assumption) ?_; rotate_left; (focus kernel_rfl); (focus (intro w hSw; (try dsimp only at hSw); go_simp; all_goals (with_reducible rfl))); try simp only [Act.put, List.getElem_toArray, List.getElem_cons_zero, List.getElem_cons_succ, List.setIfInBounds_toArray, List.set_cons_zero, List.set_cons_succ])
              have f0 := fun u hu => HC6.out 0 _ rfl u hu
              have f1 := fun u hu => HC6.out 1 _ rfl u hu
              have f2 := fun u hu => HC6.out 2 _ rfl u hu
              have f3 := fun u hu => HC6.out 3 _ rfl u hu
              have f4 := fun u hu => HC6.out 4 _ rfl u hu
              have f5 := fun u hu => HC6.out 5 _ rfl u hu
              simp only [Nat.add_zero] at f0
              (refine wpAnyH_take (i := 32) (oi := _) (v := ?_) rfl (by kernel_rfl) (by kernel_rfl) (by kernel_rfl) (fun _ _ _ h => h) (Or.inl ⟨?_, ?_⟩) (by assumption) ?_; rotate_left; (focus kernel_rfl); (focus (intro w hSw; (try dsimp only at hSw); go_simp; all_goals (with_reducible rfl))); try simp only [Act.put, List.getElem_toArray, List.getElem_cons_zero, List.getElem_cons_succ, List.setIfInBounds_toArray, List.set_cons_zero, List.set_cons_succ])
              clear f0 f1 f2 f3 f4 f5
              (refine wpAnyH_ready (rs := [33]) (by kernel_rfl) (by simp) ?_; refine AllReadyH.cons (o := _) rfl (fun K hK => ?_) AllReadyH.nil; go_simp)
              refine (SM.out _ hHeld).mono ?_
              rintro e u11 ⟨rfl, b11⟩
              (refine hK.out _ _ (OldB.then hHeld b11) (fun hHeld2 => ?_); clear hK K hHeld; have hHeld := hHeld2; clear hHeld2; try simp only [Act.put, List.getElem_toArray, List.getElem_cons_zero, List.getElem_cons_succ, List.setIfInBounds_toArray, List.set_cons_zero, List.set_cons_succ])
              (refine wpAnyH_take (i := 34) (oi := _) (v := ?_) rfl (by kernel_rfl) (by kernel_rfl) (by kernel_rfl) (fun _ _ _ h => h) (Or.inl ⟨?_, ?_⟩) (by assumption) ?_; rotate_left; (focus kernel_rfl); (focus (intro w hSw; (try dsimp only at hSw); go_simp; all_goals (with_reducible rfl))); try simp only [Act.put, List.getElem_toArray, List.getElem_cons_zero, List.getElem_cons_succ, List.setIfInBounds_toArray, List.set_cons_zero, List.set_cons_succ])
              (refine wpAnyH_take (i := 35) (oi := _) (v := ?_) rfl (by kernel_rfl) (by kernel_rfl) (by kernel_rfl) (fun _ _ _ h => h) (Or.inl ⟨?_, ?_⟩) (by assumption) ?_; rotate_left; (focus kernel_rfl); (focus (intro w hSw; (try dsimp only at hSw); go_simp; all_goals (with_reducible rfl))); try simp only [Act.put, List.getElem_toArray, List.getElem_cons_zero, List.getElem_cons_succ, List.setIfInBounds_toArray, List.set_cons_zero, List.set_cons_succ])
              (refine wpAnyH_take (i := 36) (oi := _) (v := ?_) rfl (by kernel_rfl) (by kernel_rfl) (by kernel_rfl) (fun _ _ _ h => h) (Or.inl ⟨?_, ?_⟩) (by assumption) ?_; rotate_left; (focus (first | rfl | (simp [Region.wanted, yielded]; done))); (focus (intro w hSw; (try dsimp only at hSw); go_simp; all_goals (with_reducible rfl))); try simp only [Act.put, List.getElem_toArray, List.getElem_cons_zero, List.getElem_cons_succ, List.setIfInBounds_toArray, List.set_cons_zero, List.set_cons_succ])
              have o11 : OldB u10 u11 := hHeld
              (refine wpAnyH_done (by kernel_rfl) ?_ _; refine NoPanic.normal ?_)
              have BU := Lib.hid (show OldB u3 _ from Below.trans BU.out (Below.mono o11 (Below.size BU.out)))
              have LU := Lib.hid (LU.out.below o11)
              clear o11 hHeld SM K0 K8 i1 i2 i3 i4 i5 i6 j1 j2 j3 j4 j5 HC5 HC6
              go_upto_region 14 with fail
              obtain ⟨k0, MU, -, bwu⟩ := E2.out u11 BU.out
              have BWU := Lib.hid bwu
              have MU := Lib.hid MU
              clear bwu
              cases hk : At.look (cts l) o.c.id with
              | none =>
                obtain rfl : kI = -1 := by rw [KI.out]; exact find_none hk
                have DB := Lib.hid (drop_back HV.out HVO.out (by rw [cts_len, ← HN.out]; omega) hk)
                have PL : R4.length = n + 1 := by rw [← cts_len R4, E4.out, put_len_new (At.validM_iff.1 HV.out).1 hk, cts_len, HN.out]
                have DC := Lib.hid (hdrop (c := c4) LU.out.ms o.c.id _ _ E4.out DB.out)
                have k8 := LU.out.cell
                rw [PL] at k8 DC
                have f0 := EO.out u11 BU.out 0 _ rfl
                have wn : IntKind.i64.wrap ((n : Int) + 1) = (n : Int) + 1 := IntWalk.i64_in _ (by omega)
                have PLH := Lib.hid PL
                clear PL hk
                go_wp2_with fail
                refine DC.out.mono ?_
                rintro e v1 g1
                obtain ⟨A6, c6, R6, rfl, M6, E6, C6, d1⟩ := mapE_ok g1
                have L6 := Lib.hid (Live.new M6 C6)
                have E6 := Lib.hid E6
                have d2 := d1.alloc d1.size (.cells #[.slice A6 R6.length c6] 24)
                have LU := Lib.hid (LU.out.below d2)
                have BU := Lib.hid (show OldB u3 _ from BU.out.then d2)
                clear g1 M6 C6 d1 d2 k0 k8 f0 DC MU BWU
                go_upto_region 16 with fail
                generalize v1.alloc (.cells #[.slice A6 R6.length c6] 24) = v2 at *
                generalize v1.heap.size = g6 at *
                obtain ⟨k0, MV, -, -⟩ := E2.out v2 BU.out
                have k6 := L6.out.cell
                have SB := Lib.hid (rsamem_any A6 _ c6 c R6 l R6.length n v2 rfl HN.out L6.out.ms MV)
                rw [E6.out, At.sameL_iff.2 rfl] at SB
                clear MV
                go_wp2_with fail
                refine SB.out.mono ?_
                rintro e v3 ⟨rfl, d3⟩
                have LU := Lib.hid (LU.out.below d3)
                have BU := Lib.hid (BU.out.then d3)
                obtain ⟨k0, -, -, bwv⟩ := E2.out v3 BU.out
                have BWV := Lib.hid bwv
                have k8 := LU.out.cell
                rw [PLH.out] at k8
                clear bwv d3 SB k6
                go_wp2_with fail
                go_ret
                exact ⟨rfl, BWV.out⟩
              | some z =>
                obtain ⟨hpl, hpz, hpf⟩ := find_some (At.validM_iff.1 HV.out).1 hk
                rw [← KI.out] at hpf
                subst hpf
                have PB := Lib.hid (put_back HV.out HVO.out (by rw [cts_len, ← HN.out]; omega) hk)
                generalize At.pos (cts l) o.c.id = pL at *
                have hpl2 : pL < l.length := by rwa [cts_len] at hpl
                have hpz2 : l[pL].c = z := by rw [← hpz]; simp [cts]
                obtain ⟨y', b', off', Y3, Y4, s3, s4, hyc', hA', hb', hy3, hy4, hyo', hys', hcell'⟩ := ms_el MU.out hpl2 hpz2
                first | subst hA' | (obtain ⟨e1, e2⟩ : b' = b6 ∧ off' = o6 := (by injection hA' with h; injection h with h1 h2; exact ⟨h1.symm, h2.symm⟩); subst e1 e2)
                have lU : g4 < u11.heap.size := (Array.getElem?_eq_some_iff.1 LU.out.box).1
                have PC : Hid (∀ v, OldB u11 v → Calls Tryz.prog 25 #[.agg #[.slice (some ⟨b, off, none⟩) R4.length c4], .agg #[.string (mkB z.id), .int .i64 z.kind, .int .i64 z.x, .int .i64 z.y, .slice Y3 z.refs.length s3, .slice Y4 z.tags.length s4]] v (MapE v (cts l, 0))) := Lib.hid (fun v hv => by
                  have := hput (c := c4) (LU.out.below hv).ms y' (hyo'.below hv) (by rw [hyc']; exact hys') _ _ E4.out (by rw [hyc']; exact PB.out) (by have := putF_length (cts l) (At.validM_iff.1 HV.out).1 o.c; rw [cts_len, ← HN.out] at this; omega)
                  unfold roA at this
                  rw [hyc', hy3, hy4] at this
                  exact this)
                have K0 : ∀ v, OldB u11 v → v.cell? ⟨w.heap.size, 0, none⟩ = some (.slice (some ⟨b', off', none⟩) n c) := fun v hv => (E2.out v (Below.trans BU.out (Below.mono hv (Below.size BU.out)))).1
                have K8 : ∀ v, OldB u11 v → v.cell? ⟨g4, 0, none⟩ = some (.slice (some ⟨b, off, none⟩) R4.length c4) := fun v hv => (LU.out.below hv).cell
                have f0 := fun v hv => hcell' 0 _ rfl v hv
                have f1 := fun v hv => hcell' 1 _ rfl v hv
                have f2 := fun v hv => hcell' 2 _ rfl v hv
                have f3 := fun v hv => hcell' 3 _ rfl v hv
                have f4 := fun v hv => hcell' 4 _ rfl v hv
                have f5 := fun v hv => hcell' 5 _ rfl v hv
                simp only [Nat.add_zero] at f0
                have hpn : pL < n := by rw [HN.out]; exact hpl2
                have j1 : (0 : Int) ≤ (pL : Int) := by omega
                have j2 : (pL : Int) < (n : Int) := by omega
                clear hcell' hyo' hys' hy3 hy4 hyc' MU hk hpz hpz2 hpl
                go_upto_region 19 with fail
                clear k0
                go_cut [16, 17] (fun s3 s4 wx => ∃ (p : Nat) (A : Option Addr) (c : Nat) (R : List RO), s3 = .pointer (some ⟨p, 0, none⟩) ∧ s4 = .int .i64 0 ∧ Hid (Live wx p A c R ∧ cts R = cts l) ∧ Hid (OldB u11 wx))
                case first =>
                  (refine wp_region_noPanic ?_; refine wp_region_held_drew (S := (OldB u11)) (by kernel_rfl) ?_ (fun hHeld => ?_); exact Below.drew (Below.refl _ _))
                  (refine wpAnyH_take (i := 0) (oi := _) (v := ?_) rfl (by kernel_rfl) (by kernel_rfl) (by kernel_rfl) (fun _ _ _ h => h) (Or.inl ⟨?_, ?_⟩) (by assumption) ?_; rotate_left; (focus (first | rfl | (simp [Region.wanted, yielded]; done))); (focus (intro w hSw; (try dsimp only at hSw); go_simp; all_goals (with_reducible rfl))); try simp only [Act.put, List.getElem_toArray, List.getElem_cons_zero, List.getElem_cons_succ, List.setIfInBounds_toArray, List.set_cons_zero, List.set_cons_succ])
                  (refine wpAnyH_take (i := 1) (oi := _) (v := ?_) rfl (by kernel_rfl) (by kernel_rfl) (by kernel_rfl) (fun _ _ _ h => h) (Or.inl ⟨?_, ?_⟩) (by assumption) ?_; rotate_left; (focus (first | rfl | (simp [Region.wanted, yielded]; done))); (focus (intro w hSw; (try dsimp only at hSw); go_simp; all_goals (with_reducible rfl))); try simp only [Act.put, List.getElem_toArray, List.getElem_cons_zero, List.getElem_cons_succ, List.setIfInBounds_toArray, List.set_cons_zero, List.set_cons_succ])
                  (refine wpAnyH_take (i := 2) (oi := _) (v := ?_) rfl (by kernel_rfl) (by kernel_rfl) (by kernel_rfl) (fun _ _ _ h => h) (Or.inl ⟨?_, ?_⟩) (by assumption) ?_; rotate_left; (focus (first | rfl | (simp [Region.wanted, yielded]; done))); (focus (intro w hSw; (try dsimp only at hSw); go_simp; all_goals (with_reducible rfl))); try simp only [Act.put, List.getElem_toArray, List.getElem_cons_zero, List.getElem_cons_succ, List.setIfInBounds_toArray, List.set_cons_zero, List.set_cons_succ])
                  (refine wpAnyH_take (i := 3) (oi := _) (v := ?_) rfl (by kernel_rfl) (by kernel_rfl) (by kernel_rfl) (fun _ _ _ h => h) (Or.inl ⟨?_, ?_⟩) (by assumption) ?_; rotate_left; (focus (first | rfl | (simp [Region.wanted, yielded]; done))); (focus (intro w hSw; (try dsimp only at hSw); go_simp; all_goals (with_reducible rfl))); try simp only [Act.put, List.getElem_toArray, List.getElem_cons_zero, List.getElem_cons_succ, List.setIfInBounds_toArray, List.set_cons_zero, List.set_cons_succ])
                  (refine wpAnyH_take (i := 4) (oi := _) (v := ?_) rfl (by kernel_rfl) (by kernel_rfl) (by kernel_rfl) (fun _ _ _ h => h) (Or.inl ⟨?_, ?_⟩) (by assumption) ?_; rotate_left; (focus (first | rfl | (simp [Region.wanted, yielded]; done))); (focus (intro w hSw; (try dsimp only at hSw); go_simp; all_goals (with_reducible rfl))); try simp only [Act.put, List.getElem_toArray, List.getElem_cons_zero, List.getElem_cons_succ, List.setIfInBounds_toArray, List.set_cons_zero, List.set_cons_succ])
                  (refine wpAnyH_take (i := 5) (oi := _) (v := ?_) rfl (by kernel_rfl) (by kernel_rfl) (by kernel_rfl) (fun _ _ _ h => h) (Or.inl ⟨?_, ?_⟩) (by assumption) ?_; rotate_left; (focus (first | rfl | (simp [Region.wanted, yielded]; done))); (focus (intro w hSw; (try dsimp only at hSw); go_simp; all_goals (with_reducible rfl))); try simp only [Act.put, List.getElem_toArray, List.getElem_cons_zero, List.getElem_cons_succ, List.setIfInBounds_toArray, List.set_cons_zero, List.set_cons_succ])
                  (refine wpAnyH_ready (rs := [6, 10]) (by kernel_rfl) (by simp) ?_; refine AllReadyH.cons (o := _) rfl (fun K hK => ?_) (AllReadyH.cons (o := _) rfl (fun K hK => ?_) AllReadyH.nil))
                  · go_simp
                    refine (PC.out _ hHeld).mono ?_
                    rintro e v2 h3
                    obtain ⟨A2, c2, R2, rfl, M2, E9, C2, d2⟩ := mapE_ok h3
                    clear h3
                    (refine hK.out _ _ (OldB.then hHeld d2) (fun hHeld2 => ?_); clear hK K hHeld; have hHeld := hHeld2; clear hHeld2; try simp only [Act.put, List.getElem_toArray, List.getElem_cons_zero, List.getElem_cons_succ, List.setIfInBounds_toArray, List.set_cons_zero, List.set_cons_succ])
                    (refine wpAnyH_take (i := 7) (oi := _) (v := ?_) rfl (by kernel_rfl) (by kernel_rfl) (by kernel_rfl) (fun _ _ _ h => h) (Or.inl ⟨?_, ?_⟩) (by assumption) ?_; rotate_left; (focus (first | rfl | (simp [Region.wanted, yielded]; done))); (focus (intro w hSw; (try dsimp only at hSw); go_simp; all_goals (with_reducible rfl))); try simp only [Act.put, List.getElem_toArray, List.getElem_cons_zero, List.getElem_cons_succ, List.setIfInBounds_toArray, List.set_cons_zero, List.set_cons_succ])
                    (refine wpAnyH_take (i := 8) (oi := _) (v := ?_) rfl (by kernel_rfl) (by kernel_rfl) (by kernel_rfl) (fun _ _ _ h => h) (Or.inl ⟨?_, ?_⟩) (by assumption) ?_; rotate_left; (focus (first | rfl | (simp [Region.wanted, yielded]; done))); (focus (intro w hSw; (try dsimp only at hSw); go_simp; all_goals (with_reducible rfl))); try simp only [Act.put, List.getElem_toArray, List.getElem_cons_zero, List.getElem_cons_succ, List.setIfInBounds_toArray, List.set_cons_zero, List.set_cons_succ])
                    (refine wpAnyH_take (i := 9) (oi := _) (v := ?_) rfl (by kernel_rfl) (by kernel_rfl) (by kernel_rfl) (fun _ _ _ h => h) (Or.inl ⟨?_, ?_⟩) (by assumption) ?_; rotate_left; (focus (first | rfl | (simp [Region.wanted, yielded]; done))); (focus (intro w hSw; (try dsimp only at hSw); go_simp; all_goals (with_reducible rfl))); try simp only [Act.put, List.getElem_toArray, List.getElem_cons_zero, List.getElem_cons_succ, List.setIfInBounds_toArray, List.set_cons_zero, List.set_cons_succ])
                    have hp := Below.size (show Below _ _ _ from hHeld)
                    have HH0 := Lib.hid hHeld
                    (refine wpAnyH_ready (rs := [10]) (by kernel_rfl) (by simp) ?_; refine AllReadyH.cons (o := _) rfl (fun K hK => ?_) AllReadyH.nil; go_simp)
                    (refine hK.out _ _ (OldB.alloc hHeld _) (fun hHeld2 => ?_); clear hK K hHeld; have hHeld := hHeld2; clear hHeld2; try simp only [Act.put, List.getElem_toArray, List.getElem_cons_zero, List.getElem_cons_succ, List.setIfInBounds_toArray, List.set_cons_zero, List.set_cons_succ])
                    first | have HG := Lib.hid (box_new hHeld) | have HG := Lib.hid (box_newD hHeld)
                    try simp only [World.size_alloc, World.size_drew] at hp
                    try simp only [World.size_alloc, World.size_drew] at HG
                    have k0 := cell_of_row _ _ 0 _ _ _ HG.out
                    have f0 := free_blk HG.out 0
                    simp at k0 f0
                    (refine wpAnyH_ready (rs := [11]) (by kernel_rfl) (by simp) ?_; refine AllReadyH.cons (o := _) rfl (fun K hK => ?_) AllReadyH.nil; go_simp)
                    (refine hK.out _ _ (OldB.alloc HH0.out _) (fun hHeld2 => ?_); clear hK K hHeld; have hHeld := hHeld2; clear hHeld2; try simp only [Act.put, List.getElem_toArray, List.getElem_cons_zero, List.getElem_cons_succ, List.setIfInBounds_toArray, List.set_cons_zero, List.set_cons_succ])
                    (refine wpAnyH_take (i := 12) (oi := _) (v := ?_) rfl (by kernel_rfl) (by kernel_rfl) (by kernel_rfl) (fun _ _ _ h => h) (Or.inl ⟨?_, ?_⟩) (by assumption) ?_; rotate_left; (focus (first | rfl | (simp [Region.wanted, yielded]; done))); (focus (intro w hSw; (try dsimp only at hSw); go_simp; all_goals (with_reducible rfl))); try simp only [Act.put, List.getElem_toArray, List.getElem_cons_zero, List.getElem_cons_succ, List.setIfInBounds_toArray, List.set_cons_zero, List.set_cons_succ])
                    have OW := Lib.hid hHeld
                    (refine wpAnyH_done (by kernel_rfl) ?_ _; refine NoPanic.normal ?_)
                    go_wp2_with fail
                    go_meet
                    first
                      | exact ⟨_, A2, c2, R2, rfl, rfl, Lib.hid ⟨Live.set HG.out M2 C2, E9⟩, OW⟩
                      | exact ⟨_, A2, c2, R2, rfl, rfl, Lib.hid ⟨Live.set HG.out (M2.below ((Below.refl _ _).alloc (Nat.le_refl _) _)) C2, E9⟩, OW⟩
                      | exact ⟨_, A2, c2, R2, rfl, rfl, Lib.hid ⟨Live.new M2 C2, E9⟩, OW⟩
                  · go_simp
                    have hp := Below.size (show Below _ _ _ from hHeld)
                    have HH0 := Lib.hid hHeld
                    (refine hK.out _ _ (OldB.alloc hHeld _) (fun hHeld2 => ?_); clear hK K hHeld; have hHeld := hHeld2; clear hHeld2; try simp only [Act.put, List.getElem_toArray, List.getElem_cons_zero, List.getElem_cons_succ, List.setIfInBounds_toArray, List.set_cons_zero, List.set_cons_succ])
                    first | have HG := Lib.hid (box_new hHeld) | have HG := Lib.hid (box_newD hHeld)
                    try simp only [World.size_alloc, World.size_drew] at hp
                    try simp only [World.size_alloc, World.size_drew] at HG
                    (refine wpAnyH_ready (rs := [6]) (by kernel_rfl) (by simp) ?_; refine AllReadyH.cons (o := _) rfl (fun K hK => ?_) AllReadyH.nil; go_simp)
                    refine (PC.out _ hHeld).mono ?_
                    rintro e v2 h3
                    obtain ⟨A2, c2, R2, rfl, M2, E9, C2, d2⟩ := mapE_ok h3
                    clear h3
                    (refine hK.out _ _ (OldB.then hHeld d2) (fun hHeld2 => ?_); clear hK K hHeld; have hHeld := hHeld2; clear hHeld2; try simp only [Act.put, List.getElem_toArray, List.getElem_cons_zero, List.getElem_cons_succ, List.setIfInBounds_toArray, List.set_cons_zero, List.set_cons_succ])
                    have HG := Lib.hid ((d2.block _ (lt_of_block HG.out)).trans HG.out)
                    (refine wpAnyH_take (i := 7) (oi := _) (v := ?_) rfl (by kernel_rfl) (by kernel_rfl) (by kernel_rfl) (fun _ _ _ h => h) (Or.inl ⟨?_, ?_⟩) (by assumption) ?_; rotate_left; (focus (first | rfl | (simp [Region.wanted, yielded]; done))); (focus (intro w hSw; (try dsimp only at hSw); go_simp; all_goals (with_reducible rfl))); try simp only [Act.put, List.getElem_toArray, List.getElem_cons_zero, List.getElem_cons_succ, List.setIfInBounds_toArray, List.set_cons_zero, List.set_cons_succ])
                    (refine wpAnyH_take (i := 8) (oi := _) (v := ?_) rfl (by kernel_rfl) (by kernel_rfl) (by kernel_rfl) (fun _ _ _ h => h) (Or.inl ⟨?_, ?_⟩) (by assumption) ?_; rotate_left; (focus (first | rfl | (simp [Region.wanted, yielded]; done))); (focus (intro w hSw; (try dsimp only at hSw); go_simp; all_goals (with_reducible rfl))); try simp only [Act.put, List.getElem_toArray, List.getElem_cons_zero, List.getElem_cons_succ, List.setIfInBounds_toArray, List.set_cons_zero, List.set_cons_succ])
                    (refine wpAnyH_take (i := 9) (oi := _) (v := ?_) rfl (by kernel_rfl) (by kernel_rfl) (by kernel_rfl) (fun _ _ _ h => h) (Or.inl ⟨?_, ?_⟩) (by assumption) ?_; rotate_left; (focus (first | rfl | (simp [Region.wanted, yielded]; done))); (focus (intro w hSw; (try dsimp only at hSw); go_simp; all_goals (with_reducible rfl))); try simp only [Act.put, List.getElem_toArray, List.getElem_cons_zero, List.getElem_cons_succ, List.setIfInBounds_toArray, List.set_cons_zero, List.set_cons_succ])
                    have k0 := cell_of_row _ _ 0 _ _ _ HG.out
                    have f0 := free_blk HG.out 0
                    simp at k0 f0
                    (refine wpAnyH_ready (rs := [11]) (by kernel_rfl) (by simp) ?_; refine AllReadyH.cons (o := _) rfl (fun K hK => ?_) AllReadyH.nil; go_simp)
                    (refine hK.out _ _ (OldB.set hHeld hp 0 _) (fun hHeld2 => ?_); clear hK K hHeld; have hHeld := hHeld2; clear hHeld2; try simp only [Act.put, List.getElem_toArray, List.getElem_cons_zero, List.getElem_cons_succ, List.setIfInBounds_toArray, List.set_cons_zero, List.set_cons_succ])
                    (refine wpAnyH_take (i := 12) (oi := _) (v := ?_) rfl (by kernel_rfl) (by kernel_rfl) (by kernel_rfl) (fun _ _ _ h => h) (Or.inl ⟨?_, ?_⟩) (by assumption) ?_; rotate_left; (focus (first | rfl | (simp [Region.wanted, yielded]; done))); (focus (intro w hSw; (try dsimp only at hSw); go_simp; all_goals (with_reducible rfl))); try simp only [Act.put, List.getElem_toArray, List.getElem_cons_zero, List.getElem_cons_succ, List.setIfInBounds_toArray, List.set_cons_zero, List.set_cons_succ])
                    have OW := Lib.hid hHeld
                    (refine wpAnyH_done (by kernel_rfl) ?_ _; refine NoPanic.normal ?_)
                    go_wp2_with fail
                    go_meet
                    first
                      | exact ⟨_, A2, c2, R2, rfl, rfl, Lib.hid ⟨Live.set HG.out M2 C2, E9⟩, OW⟩
                      | exact ⟨_, A2, c2, R2, rfl, rfl, Lib.hid ⟨Live.set HG.out (M2.below ((Below.refl _ _).alloc (Nat.le_refl _) _)) C2, E9⟩, OW⟩
                      | exact ⟨_, A2, c2, R2, rfl, rfl, Lib.hid ⟨Live.new M2 C2, E9⟩, OW⟩
                case rest =>
                  obtain ⟨g6, A6, c6, R6, rfl, rfl, LX, OX⟩ := hcut
                  generalize wc = v2 at *
                  have L6 := Lib.hid LX.out.1
                  have E6 := Lib.hid LX.out.2
                  have BU := Lib.hid (show OldB u3 v2 from Below.trans BU.out (Below.mono OX.out (Below.size BU.out)))
                  clear LX OX K0 K8 f0 f1 f2 f3 f4 f5 PC
                  obtain ⟨k0, MV, -, -⟩ := E2.out v2 BU.out
                  have k6 := L6.out.cell
                  have SB := Lib.hid (rsamem_any A6 (some ⟨b', off', none⟩) c6 c R6 l R6.length n v2 rfl HN.out L6.out.ms MV)
                  rw [E6.out, At.sameL_iff.2 rfl] at SB
                  clear MV
                  go_wp2_with fail
                  refine SB.out.mono ?_
                  rintro e v3 ⟨rfl, d3⟩
                  have BU := Lib.hid (BU.out.then d3)
                  obtain ⟨-, -, -, bwv⟩ := E2.out v3 BU.out
                  have BWV := Lib.hid bwv
                  clear bwv d3 SB k6 k0
                  go_wp2_with fail
                  go_ret
                  exact ⟨rfl, BWV.out⟩
end Go.Proofs.YtlejeelmlclnkaaGreatDoor
