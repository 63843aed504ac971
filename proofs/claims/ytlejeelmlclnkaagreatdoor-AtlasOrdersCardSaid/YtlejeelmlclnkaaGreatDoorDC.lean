/- WALK: the statement AtlasOrders. -/
import Derived.Test.YtlejeelmlclnkaaGreatDoorDB
import Derived.Test.YtlejeelmlclnkaaGreatDoorAS
import Derived.Deep.DeepCutAuto
set_option linter.unusedSimpArgs false
set_option linter.unusedVariables false
namespace Go.Proofs.YtlejeelmlclnkaaGreatDoor
open Go.RowKit

theorem few_len {l : List RO} (h : fewM (cts l) = true) : l.length ≤ 30 := by
  unfold fewM at h
  rw [Bool.and_eq_true, decide_eq_true_eq, cts_len] at h
  exact h.1
theorem few_one {l : List RO} {A : Option Addr} {c : Nat} : allFew [⟨A, c, l⟩] = fewM (cts l) := by simp [allFew]
set_option maxHeartbeats 8000000 in
set_option maxRecDepth 100000 in
theorem walk_AtlasOrders (A : Option Addr) (c : Nat) (l : List RO) (x : Int) (w : World) (hc : l.length ≤ c) (hcm : c ≤ 9223372036854775807) (h : Mw w A l) (hx0 : 0 ≤ x) (hx1 : x ≤ 255) (ht : Tab w) :
    Calls Tryz.prog 6 #[.agg #[.slice A l.length c], .int .u8 x] w fun e w' => e = .returned (.bool true) ∧ Below w.heap.size w w' := by
  have HM := Lib.hid h
  have HT := Lib.hid ht
  obtain ⟨n, hn⟩ : ∃ n, n = l.length := ⟨_, rfl⟩
  have HN := Lib.hid hn
  rw [← hn] at hc ⊢
  obtain ⟨w1, hw1⟩ : ∃ w1, w1 = w.alloc (.cells #[.slice A n c] 24) := ⟨_, rfl⟩
  have X0 : w1.heap[w.heap.size]? = some (.cells #[.slice A n c] 24 (0, 0)) := by rw [hw1]; exact heap_alloc_new w _
  have BX : Below w.heap.size w w1 := by rw [hw1]; exact (Below.refl _ _).alloc (Nat.le_refl _) _
  have z1 : w.heap.size < w1.heap.size := by rw [hw1]; simp
  have ENV : Hid (∀ u, Below w1.heap.size w1 u → u.cell? ⟨w.heap.size, 0, none⟩ = some (.slice A n c) ∧ Mw u A l ∧ Below w.heap.size w u) := Lib.hid (fun u hu => ⟨by have := cell_of_row u w.heap.size 0 _ _ _ ((hu.block _ z1).trans X0); simpa using this, HM.out.below (BX.trans (Below.mono hu BX.size)), BX.trans (Below.mono hu BX.size)⟩)
  have HD := Lib.hid (head_any w1 (HT.out.keep BX))
  clear h ht hn X0
  go_enter Tryz.func6, Tryz.ntmps6
  go_wp2_with fail
  rw [← hw1]
  clear hw1 BX
  refine HD.out.mono ?_
  rintro e u1 ⟨rfl, b1⟩
  obtain ⟨k0, m1, bw1⟩ := ENV.out u1 b1
  obtain ⟨x1, hx1'⟩ : ∃ x1, x1 = u1.alloc (.cells #[.slice A n c] 24) := ⟨_, rfl⟩
  have bx1 : Below u1.heap.size u1 x1 := by rw [hx1']; exact (Below.refl _ _).alloc (Nat.le_refl _) _
  have FW := Lib.hid (few_any (some ⟨u1.heap.size, 0, none⟩) 1 1 [⟨A, c, l⟩] x1 rfl (by decide) (by rw [hx1', HN.out]; exact Rd.of_row (heap_alloc_new u1 _) (List.prefix_refl _)) (fun m hm => by rw [List.mem_singleton.1 hm]; exact ⟨m1.below bx1, by show l.length ≤ _; rw [← HN.out]; omega⟩))
  rw [few_one] at FW
  have B1 := Lib.hid (b1.trans (Below.mono bx1 b1.size))
  clear m1 bw1 b1 HD
  go_wp2_with fail
  rw [← hx1']
  clear hx1' bx1 k0
  refine FW.out.mono ?_
  rintro e u2 ⟨rfl, b2⟩
  have B2 := Lib.hid (B1.out.trans (Below.mono b2 B1.out.size))
  obtain ⟨k0, m2, bw2⟩ := ENV.out u2 B2.out
  have BW2 := Lib.hid bw2
  have M2 := Lib.hid m2
  clear b2 B1 FW bw2 m2
  cases hf : fewM (cts l)
  · go_wp2_with fail
    go_ret
    exact ⟨rfl, BW2.out⟩
  · have MS := Lib.hid (M2.out.ms hf)
    have hl : n ≤ 30 := by rw [HN.out]; exact few_len hf
    have VD := Lib.hid (avalid_any A c l n u2 HN.out MS.out)
    go_wp2_with fail
    refine VD.out.mono ?_
    rintro e u3 ⟨rfl, b3⟩
    have B3 := Lib.hid (B2.out.trans (Below.mono b3 B2.out.size))
    have MS := Lib.hid (MS.out.below b3)
    obtain ⟨k0, -, bw3⟩ := ENV.out u3 B3.out
    have BW3 := Lib.hid bw3
    clear b3 B2 VD bw3 M2 BW2
    cases hV : At.validM (cts l)
    · go_wp2_with fail
      go_ret
      exact ⟨rfl, BW3.out⟩
    · have HV := Lib.hid hV
      clear hf hV
      by_cases h0 : n = 0
      · subst h0
        go_wp2_with fail
        go_ret
        exact ⟨rfl, BW3.out⟩
      · have q0 : ((n : Int) == 0) = false := by simp; omega
        obtain ⟨g1, hg1⟩ : ∃ g1, g1 = u3.heap.size := ⟨_, rfl⟩
        have L0 : Hid (Live (u3.alloc (.cells #[.slice none 0 0] 24)) g1 none 0 []) := Lib.hid ⟨by rw [hg1]; exact heap_alloc_new u3 _, Ms.nil _, Nat.le_refl _⟩
        have BA : Hid (Below u3.heap.size u3 (u3.alloc (.cells #[.slice none 0 0] 24))) := Lib.hid ((Below.refl _ _).alloc (Nat.le_refl _) _)
        have ENV : Hid (∀ u, Below u3.heap.size u3 u → u.cell? ⟨w.heap.size, 0, none⟩ = some (.slice A n c) ∧ Below w.heap.size w u) := Lib.hid (fun u hu => by
          obtain ⟨h1, -, h2⟩ := ENV.out u (B3.out.trans (Below.mono hu B3.out.size))
          exact ⟨h1, h2⟩)
        have z3 : w.heap.size < u3.heap.size := by have := B3.out.size; omega
        have OP0 := Lib.hid (ordP_nil (cts l))
        go_upto_region 5 with fail
        clear k0
        rw [← hg1]
        have HG1 := Lib.hid hg1
        have gz : u3.heap.size ≤ g1 := by omega
        clear hg1
        go_upto_region 6 with fail
        go_loopw [7, 8, 9] (fun s7 s8 s9 wr => ∃ (k : Nat) (A' : Option Addr) (c' : Nat) (R' : List RO), k ≤ n ∧ s7 = .int .i64 (k : Int) ∧ (∃ p, s8 = p) ∧ (∃ p, s9 = p) ∧ Hid (Live wr g1 A' c' R') ∧ Hid (OrdP (cts l) (cts R')) ∧ R'.length ≤ k ∧ Hid (Below u3.heap.size u3 wr)) (fun i _ _ _ => n - (intOf i).toNat)
        case atStart => exact ⟨0, none, 0, [], Nat.zero_le _, rfl, ⟨_, rfl⟩, ⟨_, rfl⟩, L0, OP0, Nat.le_refl _, BA⟩
        case round =>
          clear L0 OP0 BA
          obtain ⟨k, A', c', R', hk, rfl, ⟨p8, rfl⟩, ⟨p9, rfl⟩, LV, OP, hRk, BL⟩ := hrel
          obtain ⟨k0, bw⟩ := ENV.out wr BL.out
          clear bw
          by_cases hlt : k < n
          · have d1 : (k : Int) < (n : Int) := by omega
            obtain ⟨j, hj⟩ : ∃ j, j = (x.toNat + 5 * k) % n := ⟨_, rfl⟩
            have hjn : j < n := by rw [hj]; exact Nat.mod_lt _ (by omega)
            have md : (x + 5 * (k : Int)).tmod (n : Int) = (j : Int) := by
              rw [hj, Int.tmod_eq_emod_of_nonneg (by omega)]
              have e : x + 5 * (k : Int) = ((x.toNat + 5 * k : Nat) : Int) := by omega
              rw [e]; exact (Int.natCast_emod _ _).symm
            clear hj
            have w5 : IntKind.i64.wrap (5 * (k : Int)) = 5 * (k : Int) := IntWalk.i64_in _ (by omega)
            have w6 : IntKind.i64.wrap (x + 5 * (k : Int)) = x + 5 * (k : Int) := IntWalk.i64_in _ (by omega)
            have w7 : IntKind.i64.wrap x = x := IntWalk.i64_in _ (by omega)
            have i1 : (0 : Int) ≤ (j : Int) := by omega
            have i2 : (j : Int) < (n : Int) := by omega
            have i3 : ((n : Int) == 0) = false := q0
            have hjl : j < l.length := by rw [← HN.out]; exact hjn
            obtain ⟨b, off, hA, hb, e0, e1, e2, e3, e4, e5⟩ := ros_at (MS.out.rd.below BL.out) hjl
            subst hA
            have HO := (MS.out.below BL.out).ob l[j] (List.getElem_mem hjl)
            have SZ := MS.out.sz l[j] (List.getElem_mem hjl)
            have IN : l[j].c ∈ cts l := List.mem_map.2 ⟨_, List.getElem_mem hjl, rfl⟩
            generalize l[j] = y at *
            obtain ⟨p1, p2, p3, p4⟩ := OP.out.put HV.out IN (by rw [cts_len]; omega)
            have PC : Hid (∀ u, OldB wr u → Calls Tryz.prog 25 #[.agg #[.slice A' R'.length c'], roA y] u (MapE u (At.putF (cts R') y.c, 0))) := Lib.hid (fun u hu => hput (LV.out.below hu).ms y (HO.below hu) SZ _ _ rfl p1 (by rw [cts_len]; omega))
            obtain ⟨B1, r1, v1, -⟩ := HO.rs
            obtain ⟨B2, r2, v2, -⟩ := HO.ts
            unfold roA at PC
            rw [v1, v2] at PC
            rw [v1] at e4
            rw [v2] at e5
            have P2 := Lib.hid p2
            have P3 := Lib.hid p3
            have P4 := Lib.hid p4
            have KK : ∀ {a : Addr} {v : Value}, a.block < wr.heap.size → wr.cell? a = some v → ∀ u, OldB wr u → u.cell? a = some v := fun hp hc u hu => (World.cell?_of_block (w := wr) (hu.block _ hp)).trans hc
            have lg : g1 < wr.heap.size := (Array.getElem?_eq_some_iff.1 LV.out.box).1
            have lw : w.heap.size < wr.heap.size := by have := BL.out.size; omega
            have K0 := KK (a := ⟨w.heap.size, 0, none⟩) lw k0
            have K1 := KK (a := ⟨g1, 0, none⟩) lg LV.out.cell
            have F0 := KK (a := ⟨b, _, none⟩) hb e0
            have F1 := KK (a := ⟨b, _, none⟩) hb e1
            have F2 := KK (a := ⟨b, _, none⟩) hb e2
            have F3 := KK (a := ⟨b, _, none⟩) hb e3
            have F4 := KK (a := ⟨b, _, none⟩) hb e4
            have F5 := KK (a := ⟨b, _, none⟩) hb e5
            clear HO SZ IN p1 p2 p3 p4 v1 v2 e0 e1 e2 e3 e4 e5 KK
            go_upto_region 8 with fail
            clear k0
            go_cut [8, 9] (fun s8 s9 wx => ∃ (p : Nat) (A : Option Addr) (c : Nat) (R : List RO), s8 = .pointer (some ⟨p, 0, none⟩) ∧ s9 = .int .i64 0 ∧ Hid (Live wx p A c R ∧ cts R = At.putF (cts R') y.c) ∧ Hid (OldB wr wx))
            case first =>
              (refine wp_region_noPanic ?_; refine wp_region_held_drew (S := (OldB wr)) (by kernel_rfl) ?_ (fun hHeld => ?_); exact Below.drew (Below.refl _ _))
              (refine wpAnyH_take (i := 0) (oi := _) (v := ?_) rfl (by kernel_rfl) (by kernel_rfl) (by kernel_rfl) (fun _ _ _ h => h) (Or.inl ⟨?_, ?_⟩) (by assumption) ?_; rotate_left; (focus (first | rfl | (simp [Region.wanted, yielded]; done))); (focus (intro w hSw; (try dsimp only at hSw); go_simp; all_goals (with_reducible rfl))); try simp only [Act.put, List.getElem_toArray, List.getElem_cons_zero, List.getElem_cons_succ, List.setIfInBounds_toArray, List.set_cons_zero, List.set_cons_succ])
              (refine wpAnyH_take (i := 1) (oi := _) (v := ?_) rfl (by kernel_rfl) (by kernel_rfl) (by kernel_rfl) (fun _ _ _ h => h) (Or.inl ⟨?_, ?_⟩) (by assumption) ?_; rotate_left; (focus (first | rfl | (simp [Region.wanted, yielded]; done))); (focus (intro w hSw; (try dsimp only at hSw); go_simp; all_goals (with_reducible rfl))); try simp only [Act.put, List.getElem_toArray, List.getElem_cons_zero, List.getElem_cons_succ, List.setIfInBounds_toArray, List.set_cons_zero, List.set_cons_succ])
              (refine wpAnyH_take (i := 2) (oi := _) (v := ?_) rfl (by kernel_rfl) (by kernel_rfl) (by kernel_rfl) (fun _ _ _ h => h) (Or.inl ⟨?_, ?_⟩) (by assumption) ?_; rotate_left; (focus (first | rfl | (simp [Region.wanted, yielded]; done))); (focus (intro w hSw; (try dsimp only at hSw); go_simp; all_goals (with_reducible rfl))); try simp only [Act.put, List.getElem_toArray, List.getElem_cons_zero, List.getElem_cons_succ, List.setIfInBounds_toArray, List.set_cons_zero, List.set_cons_succ])
              (refine wpAnyH_take (i := 3) (oi := _) (v := ?_) rfl (by kernel_rfl) (by kernel_rfl) (by kernel_rfl) (fun _ _ _ h => h) (Or.inl ⟨?_, ?_⟩) (by assumption) ?_; rotate_left; (focus (first | rfl | (simp [Region.wanted, yielded]; done))); (focus (intro w hSw; (try dsimp only at hSw); go_simp; all_goals (with_reducible rfl))); try simp only [Act.put, List.getElem_toArray, List.getElem_cons_zero, List.getElem_cons_succ, List.setIfInBounds_toArray, List.set_cons_zero, List.set_cons_succ])
              (refine wpAnyH_take (i := 4) (oi := _) (v := ?_) rfl (by kernel_rfl) (by kernel_rfl) (by kernel_rfl) (fun _ _ _ h => h) (Or.inl ⟨?_, ?_⟩) (by assumption) ?_; rotate_left; (focus (first | rfl | (simp [Region.wanted, yielded]; done))); (focus (intro w hSw; (try dsimp only at hSw); go_simp; all_goals (with_reducible rfl))); try simp only [Act.put, List.getElem_toArray, List.getElem_cons_zero, List.getElem_cons_succ, List.setIfInBounds_toArray, List.set_cons_zero, List.set_cons_succ])
              (refine wpAnyH_take (i := 5) (oi := _) (v := ?_) rfl (by kernel_rfl) (by kernel_rfl) (by kernel_rfl) (fun _ _ _ h => h) (Or.inl ⟨?_, ?_⟩) (by assumption) ?_; rotate_left; (focus (first | rfl | (simp [Region.wanted, yielded]; done))); (focus (intro w hSw; (try dsimp only at hSw); go_simp; all_goals (with_reducible rfl))); try simp only [Act.put, List.getElem_toArray, List.getElem_cons_zero, List.getElem_cons_succ, List.setIfInBounds_toArray, List.set_cons_zero, List.set_cons_succ])
              (refine wpAnyH_take (i := 6) (oi := _) (v := ?_) rfl (by kernel_rfl) (by kernel_rfl) (by kernel_rfl) (fun _ _ _ h => h) (Or.inl ⟨?_, ?_⟩) (by assumption) ?_; rotate_left; (focus (first | rfl | (simp [Region.wanted, yielded]; done))); (focus (intro w hSw; (try dsimp only at hSw); go_simp; all_goals (with_reducible rfl))); try simp only [Act.put, List.getElem_toArray, List.getElem_cons_zero, List.getElem_cons_succ, List.setIfInBounds_toArray, List.set_cons_zero, List.set_cons_succ])
              (refine wpAnyH_take (i := 7) (oi := _) (v := ?_) rfl (by kernel_rfl) (by kernel_rfl) (by kernel_rfl) (fun _ _ _ h => h) (Or.inl ⟨?_, ?_⟩) (by assumption) ?_; rotate_left; (focus (first | rfl | (simp [Region.wanted, yielded]; done))); (focus (intro w hSw; (try dsimp only at hSw); go_simp; all_goals (with_reducible rfl))); try simp only [Act.put, List.getElem_toArray, List.getElem_cons_zero, List.getElem_cons_succ, List.setIfInBounds_toArray, List.set_cons_zero, List.set_cons_succ])
              (refine wpAnyH_take (i := 8) (oi := _) (v := ?_) rfl (by kernel_rfl) (by kernel_rfl) (by kernel_rfl) (fun _ _ _ h => h) (Or.inl ⟨?_, ?_⟩) (by assumption) ?_; rotate_left; (focus (first | rfl | (simp [Region.wanted, yielded]; done))); (focus (intro w hSw; (try dsimp only at hSw); go_simp; all_goals (with_reducible rfl))); try simp only [Act.put, List.getElem_toArray, List.getElem_cons_zero, List.getElem_cons_succ, List.setIfInBounds_toArray, List.set_cons_zero, List.set_cons_succ])
              (refine wpAnyH_take (i := 9) (oi := _) (v := ?_) rfl (by kernel_rfl) (by kernel_rfl) (by kernel_rfl) (fun _ _ _ h => h) (Or.inl ⟨?_, ?_⟩) (by assumption) ?_; rotate_left; (focus (first | rfl | (simp [Region.wanted, yielded]; done))); (focus (intro w hSw; (try dsimp only at hSw); go_simp; all_goals (with_reducible rfl))); try simp only [Act.put, List.getElem_toArray, List.getElem_cons_zero, List.getElem_cons_succ, List.setIfInBounds_toArray, List.set_cons_zero, List.set_cons_succ])
              (refine wpAnyH_take (i := 10) (oi := _) (v := ?_) rfl (by kernel_rfl) (by kernel_rfl) (by kernel_rfl) (fun _ _ _ h => h) (Or.inl ⟨?_, ?_⟩) (by assumption) ?_; rotate_left; (focus (first | rfl | (simp [Region.wanted, yielded]; done))); (focus (intro w hSw; (try dsimp only at hSw); go_simp; all_goals (with_reducible rfl))); try simp only [Act.put, List.getElem_toArray, List.getElem_cons_zero, List.getElem_cons_succ, List.setIfInBounds_toArray, List.set_cons_zero, List.set_cons_succ])
              (refine wpAnyH_take (i := 11) (oi := _) (v := ?_) rfl (by kernel_rfl) (by kernel_rfl) (by kernel_rfl) (fun _ _ _ h => h) (Or.inl ⟨?_, ?_⟩) (by assumption) ?_; rotate_left; (focus (first | rfl | (simp [Region.wanted, yielded]; done))); (focus (intro w hSw; (try dsimp only at hSw); go_simp; all_goals (with_reducible rfl))); try simp only [Act.put, List.getElem_toArray, List.getElem_cons_zero, List.getElem_cons_succ, List.setIfInBounds_toArray, List.set_cons_zero, List.set_cons_succ])
              (refine wpAnyH_take (i := 12) (oi := _) (v := ?_) rfl (by kernel_rfl) (by kernel_rfl) (by kernel_rfl) (fun _ _ _ h => h) (Or.inl ⟨?_, ?_⟩) (by assumption) ?_; rotate_left; (focus (first | rfl | (simp [Region.wanted, yielded]; done))); (focus (intro w hSw; (try dsimp only at hSw); go_simp; all_goals (with_reducible rfl))); try simp only [Act.put, List.getElem_toArray, List.getElem_cons_zero, List.getElem_cons_succ, List.setIfInBounds_toArray, List.set_cons_zero, List.set_cons_succ])
              (refine wpAnyH_take (i := 13) (oi := _) (v := ?_) rfl (by kernel_rfl) (by kernel_rfl) (by kernel_rfl) (fun _ _ _ h => h) (Or.inl ⟨?_, ?_⟩) (by assumption) ?_; rotate_left; (focus (first | rfl | (simp [Region.wanted, yielded]; done))); (focus (intro w hSw; (try dsimp only at hSw); go_simp; all_goals (with_reducible rfl))); try simp only [Act.put, List.getElem_toArray, List.getElem_cons_zero, List.getElem_cons_succ, List.setIfInBounds_toArray, List.set_cons_zero, List.set_cons_succ])
              (refine wpAnyH_ready (rs := [14, 18]) (by kernel_rfl) (by simp) ?_; refine AllReadyH.cons (o := _) rfl (fun K hK => ?_) (AllReadyH.cons (o := _) rfl (fun K hK => ?_) AllReadyH.nil))
              · go_simp
                refine (PC.out _ hHeld).mono ?_
                rintro e v2 h3
                obtain ⟨A2, c2, R2, rfl, M2, E2, C2, d2⟩ := mapE_ok h3
                clear h3
                (refine hK.out _ _ (OldB.then hHeld d2) (fun hHeld2 => ?_); clear hK K hHeld; have hHeld := hHeld2; clear hHeld2; try simp only [Act.put, List.getElem_toArray, List.getElem_cons_zero, List.getElem_cons_succ, List.setIfInBounds_toArray, List.set_cons_zero, List.set_cons_succ])
                (refine wpAnyH_take (i := 15) (oi := _) (v := ?_) rfl (by kernel_rfl) (by kernel_rfl) (by kernel_rfl) (fun _ _ _ h => h) (Or.inl ⟨?_, ?_⟩) (by assumption) ?_; rotate_left; (focus (first | rfl | (simp [Region.wanted, yielded]; done))); (focus (intro w hSw; (try dsimp only at hSw); go_simp; all_goals (with_reducible rfl))); try simp only [Act.put, List.getElem_toArray, List.getElem_cons_zero, List.getElem_cons_succ, List.setIfInBounds_toArray, List.set_cons_zero, List.set_cons_succ])
                (refine wpAnyH_take (i := 16) (oi := _) (v := ?_) rfl (by kernel_rfl) (by kernel_rfl) (by kernel_rfl) (fun _ _ _ h => h) (Or.inl ⟨?_, ?_⟩) (by assumption) ?_; rotate_left; (focus (first | rfl | (simp [Region.wanted, yielded]; done))); (focus (intro w hSw; (try dsimp only at hSw); go_simp; all_goals (with_reducible rfl))); try simp only [Act.put, List.getElem_toArray, List.getElem_cons_zero, List.getElem_cons_succ, List.setIfInBounds_toArray, List.set_cons_zero, List.set_cons_succ])
                (refine wpAnyH_take (i := 17) (oi := _) (v := ?_) rfl (by kernel_rfl) (by kernel_rfl) (by kernel_rfl) (fun _ _ _ h => h) (Or.inl ⟨?_, ?_⟩) (by assumption) ?_; rotate_left; (focus (first | rfl | (simp [Region.wanted, yielded]; done))); (focus (intro w hSw; (try dsimp only at hSw); go_simp; all_goals (with_reducible rfl))); try simp only [Act.put, List.getElem_toArray, List.getElem_cons_zero, List.getElem_cons_succ, List.setIfInBounds_toArray, List.set_cons_zero, List.set_cons_succ])
                have hp := Below.size (show Below _ _ _ from hHeld)
                have HH0 := Lib.hid hHeld
                (refine wpAnyH_ready (rs := [18]) (by kernel_rfl) (by simp) ?_; refine AllReadyH.cons (o := _) rfl (fun K hK => ?_) AllReadyH.nil; go_simp)
                (refine hK.out _ _ (OldB.alloc hHeld _) (fun hHeld2 => ?_); clear hK K hHeld; have hHeld := hHeld2; clear hHeld2; try simp only [Act.put, List.getElem_toArray, List.getElem_cons_zero, List.getElem_cons_succ, List.setIfInBounds_toArray, List.set_cons_zero, List.set_cons_succ])
                first | have HG := Lib.hid (box_new hHeld) | have HG := Lib.hid (box_newD hHeld)
                try simp only [World.size_alloc, World.size_drew] at hp
                try simp only [World.size_alloc, World.size_drew] at HG
                have k0 := cell_of_row _ _ 0 _ _ _ HG.out
                have f0 := free_blk HG.out 0
                simp at k0 f0
                (refine wpAnyH_ready (rs := [19]) (by kernel_rfl) (by simp) ?_; refine AllReadyH.cons (o := _) rfl (fun K hK => ?_) AllReadyH.nil; go_simp)
                (refine hK.out _ _ (OldB.alloc HH0.out _) (fun hHeld2 => ?_); clear hK K hHeld; have hHeld := hHeld2; clear hHeld2; try simp only [Act.put, List.getElem_toArray, List.getElem_cons_zero, List.getElem_cons_succ, List.setIfInBounds_toArray, List.set_cons_zero, List.set_cons_succ])
                (refine wpAnyH_take (i := 20) (oi := _) (v := ?_) rfl (by kernel_rfl) (by kernel_rfl) (by kernel_rfl) (fun _ _ _ h => h) (Or.inl ⟨?_, ?_⟩) (by assumption) ?_; rotate_left; (focus (first | rfl | (simp [Region.wanted, yielded]; done))); (focus (intro w hSw; (try dsimp only at hSw); go_simp; all_goals (with_reducible rfl))); try simp only [Act.put, List.getElem_toArray, List.getElem_cons_zero, List.getElem_cons_succ, List.setIfInBounds_toArray, List.set_cons_zero, List.set_cons_succ])
                have OW := Lib.hid hHeld
                (refine wpAnyH_done (by kernel_rfl) ?_ _; refine NoPanic.normal ?_)
                go_wp2_with fail
                go_meet
                first
                  | exact ⟨_, A2, c2, R2, rfl, rfl, Lib.hid ⟨Live.set HG.out M2 C2, E2⟩, OW⟩
                  | exact ⟨_, A2, c2, R2, rfl, rfl, Lib.hid ⟨Live.set HG.out (M2.below ((Below.refl _ _).alloc (Nat.le_refl _) _)) C2, E2⟩, OW⟩
                  | exact ⟨_, A2, c2, R2, rfl, rfl, Lib.hid ⟨Live.new M2 C2, E2⟩, OW⟩
              · go_simp
                have hp := Below.size (show Below _ _ _ from hHeld)
                have HH0 := Lib.hid hHeld
                (refine hK.out _ _ (OldB.alloc hHeld _) (fun hHeld2 => ?_); clear hK K hHeld; have hHeld := hHeld2; clear hHeld2; try simp only [Act.put, List.getElem_toArray, List.getElem_cons_zero, List.getElem_cons_succ, List.setIfInBounds_toArray, List.set_cons_zero, List.set_cons_succ])
                first | have HG := Lib.hid (box_new hHeld) | have HG := Lib.hid (box_newD hHeld)
                try simp only [World.size_alloc, World.size_drew] at hp
                try simp only [World.size_alloc, World.size_drew] at HG
                (refine wpAnyH_ready (rs := [14]) (by kernel_rfl) (by simp) ?_; refine AllReadyH.cons (o := _) rfl (fun K hK => ?_) AllReadyH.nil; go_simp)
                refine (PC.out _ hHeld).mono ?_
                rintro e v2 h3
                obtain ⟨A2, c2, R2, rfl, M2, E2, C2, d2⟩ := mapE_ok h3
                clear h3
                (refine hK.out _ _ (OldB.then hHeld d2) (fun hHeld2 => ?_); clear hK K hHeld; have hHeld := hHeld2; clear hHeld2; try simp only [Act.put, List.getElem_toArray, List.getElem_cons_zero, List.getElem_cons_succ, List.setIfInBounds_toArray, List.set_cons_zero, List.set_cons_succ])
                have HG := Lib.hid ((d2.block _ (lt_of_block HG.out)).trans HG.out)
                (refine wpAnyH_take (i := 15) (oi := _) (v := ?_) rfl (by kernel_rfl) (by kernel_rfl) (by kernel_rfl) (fun _ _ _ h => h) (Or.inl ⟨?_, ?_⟩) (by assumption) ?_; rotate_left; (focus (first | rfl | (simp [Region.wanted, yielded]; done))); (focus (intro w hSw; (try dsimp only at hSw); go_simp; all_goals (with_reducible rfl))); try simp only [Act.put, List.getElem_toArray, List.getElem_cons_zero, List.getElem_cons_succ, List.setIfInBounds_toArray, List.set_cons_zero, List.set_cons_succ])
                (refine wpAnyH_take (i := 16) (oi := _) (v := ?_) rfl (by kernel_rfl) (by kernel_rfl) (by kernel_rfl) (fun _ _ _ h => h) (Or.inl ⟨?_, ?_⟩) (by assumption) ?_; rotate_left; (focus (first | rfl | (simp [Region.wanted, yielded]; done))); (focus (intro w hSw; (try dsimp only at hSw); go_simp; all_goals (with_reducible rfl))); try simp only [Act.put, List.getElem_toArray, List.getElem_cons_zero, List.getElem_cons_succ, List.setIfInBounds_toArray, List.set_cons_zero, List.set_cons_succ])
                (refine wpAnyH_take (i := 17) (oi := _) (v := ?_) rfl (by kernel_rfl) (by kernel_rfl) (by kernel_rfl) (fun _ _ _ h => h) (Or.inl ⟨?_, ?_⟩) (by assumption) ?_; rotate_left; (focus (first | rfl | (simp [Region.wanted, yielded]; done))); (focus (intro w hSw; (try dsimp only at hSw); go_simp; all_goals (with_reducible rfl))); try simp only [Act.put, List.getElem_toArray, List.getElem_cons_zero, List.getElem_cons_succ, List.setIfInBounds_toArray, List.set_cons_zero, List.set_cons_succ])
                have k0 := cell_of_row _ _ 0 _ _ _ HG.out
                have f0 := free_blk HG.out 0
                simp at k0 f0
                (refine wpAnyH_ready (rs := [19]) (by kernel_rfl) (by simp) ?_; refine AllReadyH.cons (o := _) rfl (fun K hK => ?_) AllReadyH.nil; go_simp)
                (refine hK.out _ _ (OldB.set hHeld hp 0 _) (fun hHeld2 => ?_); clear hK K hHeld; have hHeld := hHeld2; clear hHeld2; try simp only [Act.put, List.getElem_toArray, List.getElem_cons_zero, List.getElem_cons_succ, List.setIfInBounds_toArray, List.set_cons_zero, List.set_cons_succ])
                (refine wpAnyH_take (i := 20) (oi := _) (v := ?_) rfl (by kernel_rfl) (by kernel_rfl) (by kernel_rfl) (fun _ _ _ h => h) (Or.inl ⟨?_, ?_⟩) (by assumption) ?_; rotate_left; (focus (first | rfl | (simp [Region.wanted, yielded]; done))); (focus (intro w hSw; (try dsimp only at hSw); go_simp; all_goals (with_reducible rfl))); try simp only [Act.put, List.getElem_toArray, List.getElem_cons_zero, List.getElem_cons_succ, List.setIfInBounds_toArray, List.set_cons_zero, List.set_cons_succ])
                have OW := Lib.hid hHeld
                (refine wpAnyH_done (by kernel_rfl) ?_ _; refine NoPanic.normal ?_)
                go_wp2_with fail
                go_meet
                first
                  | exact ⟨_, A2, c2, R2, rfl, rfl, Lib.hid ⟨Live.set HG.out M2 C2, E2⟩, OW⟩
                  | exact ⟨_, A2, c2, R2, rfl, rfl, Lib.hid ⟨Live.set HG.out (M2.below ((Below.refl _ _).alloc (Nat.le_refl _) _)) C2, E2⟩, OW⟩
                  | exact ⟨_, A2, c2, R2, rfl, rfl, Lib.hid ⟨Live.new M2 C2, E2⟩, OW⟩
            case rest =>
              obtain ⟨g8, A2, c2, R2, rfl, rfl, LX, OW⟩ := hcut
              generalize wc = wx at *
              have X1 := (OW.out.block g1 lg).trans LV.out.box
              have k8 := LX.out.1.cell
              have k1 := cell_of_row wx g1 0 _ _ _ X1
              have f1 := free_blk X1 0
              simp at k1
              have HX := Lib.hid X1
              have LR : Hid (R2.length ≤ R'.length + 1) := Lib.hid (by rw [← cts_len R2, LX.out.2, ← cts_len R']; exact P3.out)
              clear K0 K1 F0 F1 F2 F3 F4 F5 X1 PC md w5 w6 w7
              go_wp2_with fail
              exact ⟨⟨k + 1, A2, c2, R2, by omega, by go_num, ⟨_, rfl⟩, ⟨_, rfl⟩, Lib.hid (Live.set HX.out LX.out.1.ms LX.out.1.cap), Lib.hid (by rw [LX.out.2]; exact P2.out), by have := LR.out; omega, Lib.hid ((BL.out.trans (Below.mono OW.out BL.out.size)).setCell (by show u3.heap.size ≤ g1; omega) _)⟩, by simp [intOf]; omega⟩
          · have d1 : ¬ (k : Int) < (n : Int) := by omega
            have Z2 : Hid (∀ i, i < 0 → ∀ o, (cts l)[i]? = some o → o ∈ cts R') := Lib.hid (fun i hi => absurd hi (Nat.not_lt_zero _))
            have BL0 := BL
            have LV0 := LV
            have OP0 := OP
            obtain ⟨wq, hwq⟩ : ∃ W, W = wr := ⟨_, rfl⟩
            rw [← hwq] at LV0 BL0 k0 ⊢
            clear LV OP BL hwq
            go_upto_region 13 with fail
            go_loopw [10, 11, 12] (fun s7 s8 s9 wr => ∃ (k : Nat) (A' : Option Addr) (c' : Nat) (R' : List RO), k ≤ n ∧ s7 = .int .i64 (k : Int) ∧ (∃ p, s8 = p) ∧ (∃ p, s9 = p) ∧ Hid (Live wr g1 A' c' R') ∧ Hid (OrdP (cts l) (cts R')) ∧ Hid (∀ i, i < k → ∀ o, (cts l)[i]? = some o → o ∈ cts R') ∧ R'.length ≤ n + k ∧ Hid (Below u3.heap.size u3 wr)) (fun i _ _ _ => n - (intOf i).toNat)
            case atStart => exact ⟨0, A', c', R', Nat.zero_le _, rfl, ⟨_, rfl⟩, ⟨_, rfl⟩, LV0, OP0, Z2, by omega, BL0⟩
            case round =>
              clear LV0 OP0 Z2 BL0 k0 hRk
              obtain ⟨k, A', c', R', hk, rfl, ⟨p8, rfl⟩, ⟨p9, rfl⟩, LV, OP, AL, hRk, BL⟩ := hrel
              obtain ⟨k0, bw⟩ := ENV.out wr BL.out
              by_cases hlt : k < n
              · have d1 : (k : Int) < (n : Int) := by omega
                clear bw
                have i1 : (0 : Int) ≤ (k : Int) := by omega
                have i2 : (k : Int) < (n : Int) := by omega
                have hjn : k < n := hlt
                have hjl : k < l.length := by rw [← HN.out]; exact hjn
                obtain ⟨b, off, hA, hb, e0, e1, e2, e3, e4, e5⟩ := ros_at (MS.out.rd.below BL.out) hjl
                subst hA
                have HO := (MS.out.below BL.out).ob l[k] (List.getElem_mem hjl)
                have SZ := MS.out.sz l[k] (List.getElem_mem hjl)
                have IN : l[k].c ∈ cts l := List.mem_map.2 ⟨_, List.getElem_mem hjl, rfl⟩
                have GETK := Lib.hid (show (cts l)[k]? = some l[k].c from cts_get l hjl)
                generalize l[k] = y at *
                obtain ⟨p1, p2, p3, p4⟩ := OP.out.put HV.out IN (by rw [cts_len]; omega)
                have PC : Hid (∀ u, OldB wr u → Calls Tryz.prog 25 #[.agg #[.slice A' R'.length c'], roA y] u (MapE u (At.putF (cts R') y.c, 0))) := Lib.hid (fun u hu => hput (LV.out.below hu).ms y (HO.below hu) SZ _ _ rfl p1 (by rw [cts_len]; omega))
                obtain ⟨B1, r1, v1, -⟩ := HO.rs
                obtain ⟨B2, r2, v2, -⟩ := HO.ts
                unfold roA at PC
                rw [v1, v2] at PC
                rw [v1] at e4
                rw [v2] at e5
                have P2 := Lib.hid p2
                have P3 := Lib.hid p3
                have P4 := Lib.hid p4
                have KK : ∀ {a : Addr} {v : Value}, a.block < wr.heap.size → wr.cell? a = some v → ∀ u, OldB wr u → u.cell? a = some v := fun hp hc u hu => (World.cell?_of_block (w := wr) (hu.block _ hp)).trans hc
                have lg : g1 < wr.heap.size := (Array.getElem?_eq_some_iff.1 LV.out.box).1
                have lw : w.heap.size < wr.heap.size := by have := BL.out.size; omega
                have K0 := KK (a := ⟨w.heap.size, 0, none⟩) lw k0
                have K1 := KK (a := ⟨g1, 0, none⟩) lg LV.out.cell
                have F0 := KK (a := ⟨b, _, none⟩) hb e0
                have F1 := KK (a := ⟨b, _, none⟩) hb e1
                have F2 := KK (a := ⟨b, _, none⟩) hb e2
                have F3 := KK (a := ⟨b, _, none⟩) hb e3
                have F4 := KK (a := ⟨b, _, none⟩) hb e4
                have F5 := KK (a := ⟨b, _, none⟩) hb e5
                clear HO SZ IN p1 p2 p3 p4 v1 v2 e0 e1 e2 e3 e4 e5 KK
                go_upto_region 15 with fail
                clear k0
                go_cut [11, 12] (fun s8 s9 wx => ∃ (p : Nat) (A : Option Addr) (c : Nat) (R : List RO), s8 = .pointer (some ⟨p, 0, none⟩) ∧ s9 = .int .i64 0 ∧ Hid (Live wx p A c R ∧ cts R = At.putF (cts R') y.c) ∧ Hid (OldB wr wx))
                case first =>
                  (refine wp_region_noPanic ?_; refine wp_region_held_drew (S := (OldB wr)) (by kernel_rfl) ?_ (fun hHeld => ?_); exact Below.drew (Below.refl _ _))
                  (refine wpAnyH_take (i := 0) (oi := _) (v := ?_) rfl (by kernel_rfl) (by kernel_rfl) (by kernel_rfl) (fun _ _ _ h => h) (Or.inl ⟨?_, ?_⟩) (by assumption) ?_; rotate_left; (focus (first | rfl | (simp [Region.wanted, yielded]; done))); (focus (intro w hSw; (try dsimp only at hSw); go_simp; all_goals (with_reducible rfl))); try simp only [Act.put, List.getElem_toArray, List.getElem_cons_zero, List.getElem_cons_succ, List.setIfInBounds_toArray, List.set_cons_zero, List.set_cons_succ])
                  (refine wpAnyH_take (i := 1) (oi := _) (v := ?_) rfl (by kernel_rfl) (by kernel_rfl) (by kernel_rfl) (fun _ _ _ h => h) (Or.inl ⟨?_, ?_⟩) (by assumption) ?_; rotate_left; (focus (first | rfl | (simp [Region.wanted, yielded]; done))); (focus (intro w hSw; (try dsimp only at hSw); go_simp; all_goals (with_reducible rfl))); try simp only [Act.put, List.getElem_toArray, List.getElem_cons_zero, List.getElem_cons_succ, List.setIfInBounds_toArray, List.set_cons_zero, List.set_cons_succ])
                  (refine wpAnyH_take (i := 2) (oi := _) (v := ?_) rfl (by kernel_rfl) (by kernel_rfl) (by kernel_rfl) (fun _ _ _ h => h) (Or.inl ⟨?_, ?_⟩) (by assumption) ?_; rotate_left; (focus (first | rfl | (simp [Region.wanted, yielded]; done))); (focus (intro w hSw; (try dsimp only at hSw); go_simp; all_goals (with_reducible rfl))); try simp only [Act.put, List.getElem_toArray, List.getElem_cons_zero, List.getElem_cons_succ, List.setIfInBounds_toArray, List.set_cons_zero, List.set_cons_succ])
                  (refine wpAnyH_take (i := 3) (oi := _) (v := ?_) rfl (by kernel_rfl) (by kernel_rfl) (by kernel_rfl) (fun _ _ _ h => h) (Or.inl ⟨?_, ?_⟩) (by assumption) ?_; rotate_left; (focus (first | rfl | (simp [Region.wanted, yielded]; done))); (focus (intro w hSw; (try dsimp only at hSw); go_simp; all_goals (with_reducible rfl))); try simp only [Act.put, List.getElem_toArray, List.getElem_cons_zero, List.getElem_cons_succ, List.setIfInBounds_toArray, List.set_cons_zero, List.set_cons_succ])
                  (refine wpAnyH_take (i := 4) (oi := _) (v := ?_) rfl (by kernel_rfl) (by kernel_rfl) (by kernel_rfl) (fun _ _ _ h => h) (Or.inl ⟨?_, ?_⟩) (by assumption) ?_; rotate_left; (focus (first | rfl | (simp [Region.wanted, yielded]; done))); (focus (intro w hSw; (try dsimp only at hSw); go_simp; all_goals (with_reducible rfl))); try simp only [Act.put, List.getElem_toArray, List.getElem_cons_zero, List.getElem_cons_succ, List.setIfInBounds_toArray, List.set_cons_zero, List.set_cons_succ])
                  (refine wpAnyH_take (i := 5) (oi := _) (v := ?_) rfl (by kernel_rfl) (by kernel_rfl) (by kernel_rfl) (fun _ _ _ h => h) (Or.inl ⟨?_, ?_⟩) (by assumption) ?_; rotate_left; (focus (first | rfl | (simp [Region.wanted, yielded]; done))); (focus (intro w hSw; (try dsimp only at hSw); go_simp; all_goals (with_reducible rfl))); try simp only [Act.put, List.getElem_toArray, List.getElem_cons_zero, List.getElem_cons_succ, List.setIfInBounds_toArray, List.set_cons_zero, List.set_cons_succ])
                  (refine wpAnyH_ready (rs := [6, 10]) (by kernel_rfl) (by simp) ?_; refine AllReadyH.cons (o := _) rfl (fun K hK => ?_) (AllReadyH.cons (o := _) rfl (fun K hK => ?_) AllReadyH.nil))
                  · go_simp
                    refine (PC.out _ hHeld).mono ?_
                    rintro e v2 h3
                    obtain ⟨A2, c2, R2, rfl, M2, E2, C2, d2⟩ := mapE_ok h3
                    clear h3
                    (refine hK.out _ _ (OldB.then hHeld d2) (fun hHeld2 => ?_); clear hK K hHeld; have hHeld := hHeld2; clear hHeld2; try simp only [Act.put, List.getElem_toArray, List.getElem_cons_zero, List.getElem_cons_succ, List.setIfInBounds_toArray, List.set_cons_zero, List.set_cons_succ])
                    (refine wpAnyH_take (i := 7) (oi := _) (v := ?_) rfl (by kernel_rfl) (by kernel_rfl) (by kernel_rfl) (fun _ _ _ h => h) (Or.inl ⟨?_, ?_⟩) (by assumption) ?_; rotate_left; (focus (first | rfl | (simp [Region.wanted, yielded]; done))); (focus (intro w hSw; (try dsimp only at hSw); go_simp; all_goals (with_reducible rfl))); try simp only [Act.put, List.getElem_toArray, List.getElem_cons_zero, List.getElem_cons_succ, List.setIfInBounds_toArray, List.set_cons_zero, List.set_cons_succ])
                    (refine wpAnyH_take (i := 8) (oi := _) (v := ?_) rfl (by kernel_rfl) (by kernel_rfl) (by kernel_rfl) (fun _ _ _ h => h) (Or.inl ⟨?_, ?_⟩) (by assumption) ?_; rotate_left; (focus (first | rfl | (simp [Region.wanted, yielded]; done))); (focus (intro w hSw; (try dsimp only at hSw); go_simp; all_goals (with_reducible rfl))); try simp only [Act.put, List.getElem_toArray, List.getElem_cons_zero, List.getElem_cons_succ, List.setIfInBounds_toArray, List.set_cons_zero, List.set_cons_succ])
                    (refine wpAnyH_take (i := 9) (oi := _) (v := ?_) rfl (by kernel_rfl) (by kernel_rfl) (by kernel_rfl) (fun _ _ _ h => h) (Or.inl ⟨?_, ?_⟩) (by assumption) ?_; rotate_left; (focus (first | rfl | (simp [Region.wanted, yielded]; done))); (focus (intro w hSw; (try dsimp only at hSw); go_simp; all_goals (with_reducible rfl))); try simp only [Act.put, List.getElem_toArray, List.getElem_cons_zero, List.getElem_cons_succ, List.setIfInBounds_toArray, List.set_cons_zero, List.set_cons_succ])
                    have hp := Below.size (show Below _ _ _ from hHeld)
                    have HH0 := Lib.hid hHeld
                    (refine wpAnyH_ready (rs := [10]) (by kernel_rfl) (by simp) ?_; refine AllReadyH.cons (o := _) rfl (fun K hK => ?_) AllReadyH.nil; go_simp)
                    (refine hK.out _ _ (OldB.alloc hHeld _) (fun hHeld2 => ?_); clear hK K hHeld; have hHeld := hHeld2; clear hHeld2; try simp only [Act.put, List.getElem_toArray, List.getElem_cons_zero, List.getElem_cons_succ, List.setIfInBounds_toArray, List.set_cons_zero, List.set_cons_succ])
                    first | have HG := Lib.hid (box_new hHeld) | have HG := Lib.hid (box_newD hHeld)
                    try simp only [World.size_alloc, World.size_drew] at hp
                    try simp only [World.size_alloc, World.size_drew] at HG
                    have k0 := cell_of_row _ _ 0 _ _ _ HG.out
                    have f0 := free_blk HG.out 0
                    simp at k0 f0
                    (refine wpAnyH_ready (rs := [11]) (by kernel_rfl) (by simp) ?_; refine AllReadyH.cons (o := _) rfl (fun K hK => ?_) AllReadyH.nil; go_simp)
                    (refine hK.out _ _ (OldB.alloc HH0.out _) (fun hHeld2 => ?_); clear hK K hHeld; have hHeld := hHeld2; clear hHeld2; try simp only [Act.put, List.getElem_toArray, List.getElem_cons_zero, List.getElem_cons_succ, List.setIfInBounds_toArray, List.set_cons_zero, List.set_cons_succ])
                    (refine wpAnyH_take (i := 12) (oi := _) (v := ?_) rfl (by kernel_rfl) (by kernel_rfl) (by kernel_rfl) (fun _ _ _ h => h) (Or.inl ⟨?_, ?_⟩) (by assumption) ?_; rotate_left; (focus (first | rfl | (simp [Region.wanted, yielded]; done))); (focus (intro w hSw; (try dsimp only at hSw); go_simp; all_goals (with_reducible rfl))); try simp only [Act.put, List.getElem_toArray, List.getElem_cons_zero, List.getElem_cons_succ, List.setIfInBounds_toArray, List.set_cons_zero, List.set_cons_succ])
                    have OW := Lib.hid hHeld
                    (refine wpAnyH_done (by kernel_rfl) ?_ _; refine NoPanic.normal ?_)
                    go_wp2_with fail
                    go_meet
                    first
                      | exact ⟨_, A2, c2, R2, rfl, rfl, Lib.hid ⟨Live.set HG.out M2 C2, E2⟩, OW⟩
                      | exact ⟨_, A2, c2, R2, rfl, rfl, Lib.hid ⟨Live.set HG.out (M2.below ((Below.refl _ _).alloc (Nat.le_refl _) _)) C2, E2⟩, OW⟩
                      | exact ⟨_, A2, c2, R2, rfl, rfl, Lib.hid ⟨Live.new M2 C2, E2⟩, OW⟩
                  · go_simp
                    have hp := Below.size (show Below _ _ _ from hHeld)
                    have HH0 := Lib.hid hHeld
                    (refine hK.out _ _ (OldB.alloc hHeld _) (fun hHeld2 => ?_); clear hK K hHeld; have hHeld := hHeld2; clear hHeld2; try simp only [Act.put, List.getElem_toArray, List.getElem_cons_zero, List.getElem_cons_succ, List.setIfInBounds_toArray, List.set_cons_zero, List.set_cons_succ])
                    first | have HG := Lib.hid (box_new hHeld) | have HG := Lib.hid (box_newD hHeld)
                    try simp only [World.size_alloc, World.size_drew] at hp
                    try simp only [World.size_alloc, World.size_drew] at HG
                    (refine wpAnyH_ready (rs := [6]) (by kernel_rfl) (by simp) ?_; refine AllReadyH.cons (o := _) rfl (fun K hK => ?_) AllReadyH.nil; go_simp)
                    refine (PC.out _ hHeld).mono ?_
                    rintro e v2 h3
                    obtain ⟨A2, c2, R2, rfl, M2, E2, C2, d2⟩ := mapE_ok h3
                    clear h3
                    (refine hK.out _ _ (OldB.then hHeld d2) (fun hHeld2 => ?_); clear hK K hHeld; have hHeld := hHeld2; clear hHeld2; try simp only [Act.put, List.getElem_toArray, List.getElem_cons_zero, List.getElem_cons_succ, List.setIfInBounds_toArray, List.set_cons_zero, List.set_cons_succ])
                    have HG := Lib.hid ((d2.block _ (lt_of_block HG.out)).trans HG.out)
                    (refine wpAnyH_take (i := 7) (oi := _) (v := ?_) rfl (by kernel_rfl) (by kernel_rfl) (by kernel_rfl) (fun _ _ _ h => h) (Or.inl ⟨?_, ?_⟩) (by assumption) ?_; rotate_left; (focus (first | rfl | (simp [Region.wanted, yielded]; done))); (focus (intro w hSw; (try dsimp only at hSw); go_simp; all_goals (with_reducible rfl))); try simp only [Act.put, List.getElem_toArray, List.getElem_cons_zero, List.getElem_cons_succ, List.setIfInBounds_toArray, List.set_cons_zero, List.set_cons_succ])
                    (refine wpAnyH_take (i := 8) (oi := _) (v := ?_) rfl (by kernel_rfl) (by kernel_rfl) (by kernel_rfl) (fun _ _ _ h => h) (Or.inl ⟨?_, ?_⟩) (by assumption) ?_; rotate_left; (focus (first | rfl | (simp [Region.wanted, yielded]; done))); (focus (intro w hSw; (try dsimp only at hSw); go_simp; all_goals (with_reducible rfl))); try simp only [Act.put, List.getElem_toArray, List.getElem_cons_zero, List.getElem_cons_succ, List.setIfInBounds_toArray, List.set_cons_zero, List.set_cons_succ])
                    (refine wpAnyH_take (i := 9) (oi := _) (v := ?_) rfl (by kernel_rfl) (by kernel_rfl) (by kernel_rfl) (fun _ _ _ h => h) (Or.inl ⟨?_, ?_⟩) (by assumption) ?_; rotate_left; (focus (first | rfl | (simp [Region.wanted, yielded]; done))); (focus (intro w hSw; (try dsimp only at hSw); go_simp; all_goals (with_reducible rfl))); try simp only [Act.put, List.getElem_toArray, List.getElem_cons_zero, List.getElem_cons_succ, List.setIfInBounds_toArray, List.set_cons_zero, List.set_cons_succ])
                    have k0 := cell_of_row _ _ 0 _ _ _ HG.out
                    have f0 := free_blk HG.out 0
                    simp at k0 f0
                    (refine wpAnyH_ready (rs := [11]) (by kernel_rfl) (by simp) ?_; refine AllReadyH.cons (o := _) rfl (fun K hK => ?_) AllReadyH.nil; go_simp)
                    (refine hK.out _ _ (OldB.set hHeld hp 0 _) (fun hHeld2 => ?_); clear hK K hHeld; have hHeld := hHeld2; clear hHeld2; try simp only [Act.put, List.getElem_toArray, List.getElem_cons_zero, List.getElem_cons_succ, List.setIfInBounds_toArray, List.set_cons_zero, List.set_cons_succ])
                    (refine wpAnyH_take (i := 12) (oi := _) (v := ?_) rfl (by kernel_rfl) (by kernel_rfl) (by kernel_rfl) (fun _ _ _ h => h) (Or.inl ⟨?_, ?_⟩) (by assumption) ?_; rotate_left; (focus (first | rfl | (simp [Region.wanted, yielded]; done))); (focus (intro w hSw; (try dsimp only at hSw); go_simp; all_goals (with_reducible rfl))); try simp only [Act.put, List.getElem_toArray, List.getElem_cons_zero, List.getElem_cons_succ, List.setIfInBounds_toArray, List.set_cons_zero, List.set_cons_succ])
                    have OW := Lib.hid hHeld
                    (refine wpAnyH_done (by kernel_rfl) ?_ _; refine NoPanic.normal ?_)
                    go_wp2_with fail
                    go_meet
                    first
                      | exact ⟨_, A2, c2, R2, rfl, rfl, Lib.hid ⟨Live.set HG.out M2 C2, E2⟩, OW⟩
                      | exact ⟨_, A2, c2, R2, rfl, rfl, Lib.hid ⟨Live.set HG.out (M2.below ((Below.refl _ _).alloc (Nat.le_refl _) _)) C2, E2⟩, OW⟩
                      | exact ⟨_, A2, c2, R2, rfl, rfl, Lib.hid ⟨Live.new M2 C2, E2⟩, OW⟩
                case rest =>
                  obtain ⟨g8, A2, c2, R2, rfl, rfl, LX, OW⟩ := hcut
                  generalize wc = wx at *
                  have X1 := (OW.out.block g1 lg).trans LV.out.box
                  have k8 := LX.out.1.cell
                  have k1 := cell_of_row wx g1 0 _ _ _ X1
                  have f1 := free_blk X1 0
                  simp at k1
                  have HX := Lib.hid X1
                  have LR : Hid (R2.length ≤ R'.length + 1) := Lib.hid (by rw [← cts_len R2, LX.out.2, ← cts_len R']; exact P3.out)
                  clear K0 K1 F0 F1 F2 F3 F4 F5 X1 PC
                  go_wp2_with fail
                  exact ⟨⟨k + 1, A2, c2, R2, by omega, by go_num, ⟨_, rfl⟩, ⟨_, rfl⟩, Lib.hid (Live.set HX.out LX.out.1.ms LX.out.1.cap), Lib.hid (by rw [LX.out.2]; exact P2.out), Lib.hid (fun i hi o ho => by
                      rw [LX.out.2]
                      rcases Nat.lt_or_ge i k with h' | h'
                      · exact P4.out o (.inl (AL.out i h' o ho))
                      · obtain rfl : i = k := by omega
                        rw [GETK.out] at ho
                        exact P4.out o (.inr (Option.some.inj ho).symm)), by have := LR.out; omega, Lib.hid ((BL.out.trans (Below.mono OW.out BL.out.size)).setCell (by show u3.heap.size ≤ g1; omega) _)⟩, by simp [intOf]; omega⟩
              · have d1 : ¬ (k : Int) < (n : Int) := by omega
                have EQ : Hid (cts R' = cts l) := Lib.hid (OP.out.all HV.out fun o ho => by
                  obtain ⟨i, hi, e⟩ := List.mem_iff_getElem.1 ho
                  exact AL.out i (by rw [cts_len, ← HN.out] at hi; omega) o (by rw [List.getElem?_eq_getElem hi, e]))
                have SM := Lib.hid (rsamem_any A' A c' c R' l R'.length n wr rfl HN.out LV.out.ms (MS.out.below BL.out))
                rw [EQ.out, At.sameL_iff.2 rfl] at SM
                have k1 := LV.out.cell
                have BW := Lib.hid bw
                clear bw EQ AL OP
                go_wp2_with fail
                refine SM.out.mono ?_
                rintro e u9 ⟨rfl, b9⟩
                have B9 := Lib.hid (BW.out.trans (Below.mono b9 BW.out.size))
                clear b9 SM
                go_wp2_with fail
                go_ret
                exact ⟨rfl, B9.out⟩
end Go.Proofs.YtlejeelmlclnkaaGreatDoor
