/- WALK: the statement AtlasDiffs. -/
import Derived.Test.YtlejeelmlclnkaaGreatDoorDB
import Derived.Test.YtlejeelmlclnkaaGreatDoorDD
import Derived.Deep.DeepCutAuto
set_option linter.unusedSimpArgs false
set_option linter.unusedVariables false
namespace Go.Proofs.YtlejeelmlclnkaaGreatDoor
open Go.RowKit

theorem few_len2 {l : List RO} (h : fewM (cts l) = true) : l.length ≤ 30 := by
  unfold fewM at h
  rw [Bool.and_eq_true, decide_eq_true_eq, cts_len] at h
  exact h.1
theorem few_two {l m : List RO} {A B : Option Addr} {c d : Nat} : allFew [⟨A, c, l⟩, ⟨B, d, m⟩] = (fewM (cts l) && fewM (cts m)) := by simp [allFew]
/-- the differences of two maps come back as a small list -/
theorem ds_of {w : World} {L : List At.Dl} {e : Ending} {w' : World} (h : DsE w L e w') (hl : L.length ≤ 10000) : ∃ (A : Option Addr) (c : Nat) (R : List DV), e = .returned (.slice A R.length c) ∧ Ds w' A R ∧ R.map DV.d = L ∧ Below w.heap.size w w' := by
  obtain ⟨A, c, R, h1, h2, h3, h4, h5, h6⟩ := h
  exact ⟨A, c, R, h1, ⟨h2, fun d hd => ⟨(h3 d hd).1.below h6, (h3 d hd).2⟩, by rw [← h4] at hl; simpa using hl⟩, h4, h6⟩
theorem diffG_len (a b : List At.Ob) : (At.diffG a b).length ≤ a.length + b.length := by
  unfold At.diffG
  exact Nat.le_trans (List.length_filter_le _ _) (At.pairs_len _ _ _)
theorem hdiff {A B : Option Addr} {n c m d : Nat} {l l' : List RO} {w : World} (hn : n = l.length) (hm : m = l'.length) (hl : n ≤ 100) (hl2 : m ≤ 100) (hc : n ≤ c) (hd : m ≤ d) (h : Ms w A l) (h2 : Ms w B l') (va : At.validM (cts l) = true) (vb : At.validM (cts l') = true) :
    Calls Tryz.prog 13 #[.agg #[.slice A n c], .agg #[.slice B m d]] w fun e w' => ∃ (A6 : Option Addr) (c6 : Nat) (R : List DV), e = .returned (.slice A6 R.length c6) ∧ Ds w' A6 R ∧ R.map DV.d = At.diffG (cts l) (cts l') ∧ Below w.heap.size w w' := by
  refine (diff_any A B n c m d l l' w hn hm (by omega) (by omega) hc hd h h2).mono fun e w' hx => ?_
  have e1 : At.diffF (cts l) (cts l') = At.diffG (cts l) (cts l') := by unfold At.diffF; rw [va, vb]; rfl
  rw [e1] at hx
  exact ds_of hx (by have := diffG_len (cts l) (cts l'); rw [cts_len, cts_len] at this; omega)
theorem hpat {A B : Option Addr} {n c : Nat} {l : List RO} {R : List DV} {d : Nat} {w : World} (hn : n = l.length) (hl : n ≤ 200) (hc : n ≤ c) (h : Ms w A l) (hD : Ds w B R) (L : List At.Ob) (k : Nat) (hp : At.patchF (cts l) (R.map DV.d) = (L, k)) :
    Calls Tryz.prog 14 #[.agg #[.slice A n c], .slice B R.length d] w (MapE w (L, k)) := by
  have := patch_any A B n c R.length d l R w hn rfl (by have := hD.len; omega) h hc hD.dm
  rwa [hp] at this
set_option maxHeartbeats 8000000 in
set_option maxRecDepth 100000 in
theorem walk_AtlasDiffs (A : Option Addr) (c : Nat) (l : List RO) (B : Option Addr) (d : Nat) (l' : List RO) (w : World) (hc : l.length ≤ c) (hcm : c ≤ 9223372036854775807) (h : Mw w A l) (hd : l'.length ≤ d) (hdm : d ≤ 9223372036854775807) (h2 : Mw w B l') (ht : Tab w) :
    Calls Tryz.prog 3 #[.agg #[.slice A l.length c], .agg #[.slice B l'.length d]] w fun e w' => e = .returned (.bool true) ∧ Below w.heap.size w w' := by
  have HM := Lib.hid h
  have HM2 := Lib.hid h2
  have HT := Lib.hid ht
  obtain ⟨n, hn⟩ : ∃ n, n = l.length := ⟨_, rfl⟩
  obtain ⟨m, hm⟩ : ∃ m, m = l'.length := ⟨_, rfl⟩
  have HN := Lib.hid hn
  have HN2 := Lib.hid hm
  rw [← hn] at hc ⊢
  rw [← hm] at hd ⊢
  obtain ⟨w1, hw1⟩ : ∃ w1, w1 = (w.alloc (.cells #[.slice A n c] 24)).alloc (.cells #[.slice B m d] 24) := ⟨_, rfl⟩
  have X0 : w1.heap[w.heap.size]? = some (.cells #[.slice A n c] 24 (0, 0)) := by rw [hw1]; exact (alloc_old _ _ (by simp)).trans (heap_alloc_new w _)
  have X1 : w1.heap[w.heap.size + 1]? = some (.cells #[.slice B m d] 24 (0, 0)) := by rw [hw1]; exact alloc_new' _ _ _ (by simp)
  have BX : Below w.heap.size w w1 := by rw [hw1]; exact ((Below.refl _ _).alloc (Nat.le_refl _) _).alloc (by simp) _
  have z1 : w.heap.size + 1 < w1.heap.size := by rw [hw1]; simp
  have ENV : Hid (∀ u, Below w1.heap.size w1 u → u.cell? ⟨w.heap.size, 0, none⟩ = some (.slice A n c) ∧ u.cell? ⟨w.heap.size + 1, 0, none⟩ = some (.slice B m d) ∧ Mw u A l ∧ Mw u B l' ∧ Below w.heap.size w u) := Lib.hid (fun u hu => ⟨by have := cell_of_row u w.heap.size 0 _ _ _ ((hu.block _ (by omega)).trans X0); simpa using this, by have := cell_of_row u (w.heap.size + 1) 0 _ _ _ ((hu.block _ z1).trans X1); simpa using this, HM.out.below (BX.trans (Below.mono hu BX.size)), HM2.out.below (BX.trans (Below.mono hu BX.size)), BX.trans (Below.mono hu BX.size)⟩)
  have HD := Lib.hid (head_any w1 (HT.out.keep BX))
  clear h h2 ht hn hm X0 X1
  go_enter Tryz.func3, Tryz.ntmps3
  go_wp2_with fail
  rw [← hw1]
  clear hw1 BX
  refine HD.out.mono ?_
  rintro e u1 ⟨rfl, b1⟩
  obtain ⟨k0, k1, m1, m2, bw1⟩ := ENV.out u1 b1
  obtain ⟨x1, hx1'⟩ : ∃ x1, x1 = u1.alloc (.cells #[.slice A n c, .slice B m d] 24) := ⟨_, rfl⟩
  have bx1 : Below u1.heap.size u1 x1 := by rw [hx1']; exact (Below.refl _ _).alloc (Nat.le_refl _) _
  have FW := Lib.hid (few_any (some ⟨u1.heap.size, 0, none⟩) 2 2 [⟨A, c, l⟩, ⟨B, d, l'⟩] x1 rfl (by decide) (by rw [hx1', HN.out, HN2.out]; exact Rd.of_row (heap_alloc_new u1 _) (List.prefix_refl _)) (fun y hy => by
    rcases List.mem_cons.1 hy with rfl | hy
    · exact ⟨m1.below bx1, by show l.length ≤ _; rw [← HN.out]; omega⟩
    · rw [List.mem_singleton.1 hy]; exact ⟨m2.below bx1, by show l'.length ≤ _; rw [← HN2.out]; omega⟩))
  rw [few_two] at FW
  have B1 := Lib.hid (b1.trans (Below.mono bx1 b1.size))
  clear m1 m2 bw1 b1 HD
  go_wp2_with fail
  rw [← hx1']
  clear hx1' bx1 k0 k1
  refine FW.out.mono ?_
  rintro e u2 ⟨rfl, b2⟩
  have B2 := Lib.hid (B1.out.trans (Below.mono b2 B1.out.size))
  obtain ⟨k0, k1, m1, m2, bw2⟩ := ENV.out u2 B2.out
  have BW2 := Lib.hid bw2
  have M1 := Lib.hid m1
  have M2 := Lib.hid m2
  clear b2 B1 FW bw2 m1 m2
  cases hf : (fewM (cts l) && fewM (cts l'))
  · go_wp2_with fail
    go_ret
    exact ⟨rfl, BW2.out⟩
  · rw [Bool.and_eq_true] at hf
    have MS := Lib.hid (M1.out.ms hf.1)
    have MT := Lib.hid (M2.out.ms hf.2)
    have hl : n ≤ 30 := by rw [HN.out]; exact few_len2 hf.1
    have hl2 : m ≤ 30 := by rw [HN2.out]; exact few_len2 hf.2
    have VD := Lib.hid (avalid_any A c l n u2 HN.out MS.out)
    clear hf
    go_wp2_with fail
    refine VD.out.mono ?_
    rintro e u3 ⟨rfl, b3⟩
    have B3 := Lib.hid (B2.out.trans (Below.mono b3 B2.out.size))
    have MS := Lib.hid (MS.out.below b3)
    have MT := Lib.hid (MT.out.below b3)
    obtain ⟨k0, k1, -, -, bw3⟩ := ENV.out u3 B3.out
    have BW3 := Lib.hid bw3
    clear b3 B2 VD bw3 M1 M2 BW2
    cases hV : At.validM (cts l)
    · go_wp2_with fail
      go_ret
      exact ⟨rfl, BW3.out⟩
    · have HV := Lib.hid hV
      have VE := Lib.hid (avalid_any B d l' m u3 HN2.out MT.out)
      clear hV
      go_wp2_with fail
      refine VE.out.mono ?_
      rintro e u4 ⟨rfl, b4⟩
      have B4 := Lib.hid (B3.out.trans (Below.mono b4 B3.out.size))
      have MS := Lib.hid (MS.out.below b4)
      have MT := Lib.hid (MT.out.below b4)
      obtain ⟨k0, k1, -, -, bw4⟩ := ENV.out u4 B4.out
      have BW4 := Lib.hid bw4
      clear b4 B3 VE bw4 BW3
      cases hV2 : At.validM (cts l')
      · go_wp2_with fail
        go_ret
        exact ⟨rfl, BW4.out⟩
      · have HV2 := Lib.hid hV2
        clear hV2
        have E2 : Hid (∀ u, Below u4.heap.size u4 u → u.cell? ⟨w.heap.size, 0, none⟩ = some (.slice A n c) ∧ u.cell? ⟨w.heap.size + 1, 0, none⟩ = some (.slice B m d) ∧ Ms u A l ∧ Ms u B l' ∧ Below w.heap.size w u) := Lib.hid (fun u hu => by
          obtain ⟨h1, h2, -, -, h3⟩ := ENV.out u (B4.out.trans (Below.mono hu B4.out.size))
          exact ⟨h1, h2, MS.out.below hu, MT.out.below hu, h3⟩)
        have PF1 := Lib.hid (At.patch_diff HV.out HV2.out (by rw [cts_len, cts_len, ← HN.out, ← HN2.out]; omega))
        have PF2 := Lib.hid (At.patch_diff HV2.out HV.out (by rw [cts_len, cts_len, ← HN.out, ← HN2.out]; omega))
        have TU := Lib.hid (At.diff_turn (At.validM_iff.1 HV.out).1 (At.validM_iff.1 HV2.out).1)
        have NI := Lib.hid (At.diff_nil (At.validM_iff.1 HV.out).1 (At.validM_iff.1 HV2.out).1)
        go_wp2_with fail
        refine (hdiff HN.out HN2.out (by omega) (by omega) hc hd MS.out MT.out HV.out HV2.out).mono ?_
        rintro e u5 ⟨A6, c6, R6, rfl, D6, E6, b5⟩
        obtain ⟨k0, k1, MS5, MT5, -⟩ := E2.out u5 b5
        have B5 := Lib.hid b5
        have D6 := Lib.hid D6
        have E6 := Lib.hid E6
        have P1 := Lib.hid (hpat (d := c6) HN.out (by omega) hc MS5 D6.out _ 0 (by rw [E6.out]; exact PF1.out))
        clear b5 MS5 MT5
        go_wp2_with fail
        refine P1.out.mono ?_
        rintro e u6 h6
        obtain ⟨A7, c7, R7, rfl, M7, E7, C7, b6⟩ := mapE_ok h6
        have L7 := Lib.hid (Live.new M7 C7)
        have E7 := Lib.hid E7
        have b7 := b6.alloc b6.size (.cells #[.slice A7 R7.length c7] 24)
        have B7 := Lib.hid (B5.out.trans (Below.mono b7 B5.out.size))
        have D7 := Lib.hid (D6.out.below b7)
        clear h6 M7 C7 b6 b7 P1 D6 k0 k1
        go_upto_region 6 with fail
        generalize u6.alloc (.cells #[.slice A7 R7.length c7] 24) = u7 at *
        generalize u6.heap.size = g7 at *
        have K1 : ∀ u, OldB u7 u → u.cell? ⟨w.heap.size + 1, 0, none⟩ = some (.slice B m d) := fun u hu => (E2.out u (B7.out.trans (Below.mono hu B7.out.size))).2.1
        have M7 : Hid (∀ u, OldB u7 u → Ms u B l') := Lib.hid (fun u hu => (E2.out u (B7.out.trans (Below.mono hu B7.out.size))).2.2.2.1)
        go_cut [9, 10] (fun s9 s10 wx => ∃ (p : Nat) (A : Option Addr) (c : Nat) (R : List RO), s9 = .pointer (some ⟨p, 0, none⟩) ∧ s10 = .int .i64 0 ∧ Hid (Live wx p A c R ∧ cts R = cts l) ∧ Hid (OldB u7 wx))
        case first =>
          (refine wp_region_noPanic ?_; refine wp_region_held_drew (S := (OldB u7)) (by kernel_rfl) ?_ (fun hHeld => ?_); exact Below.drew (Below.refl _ _))
          (refine wpAnyH_take (i := 0) (oi := _) (v := ?_) rfl (by kernel_rfl) (by kernel_rfl) (by kernel_rfl) (fun _ _ _ h => h) (Or.inl ⟨?_, ?_⟩) (by assumption) ?_; rotate_left; (focus (first | rfl | (simp [Region.wanted, yielded]; done))); (focus (intro w hSw; (try dsimp only at hSw); go_simp; all_goals (with_reducible rfl))); try simp only [Act.put, List.getElem_toArray, List.getElem_cons_zero, List.getElem_cons_succ, List.setIfInBounds_toArray, List.set_cons_zero, List.set_cons_succ])
          (refine wpAnyH_take (i := 1) (oi := _) (v := ?_) rfl (by kernel_rfl) (by kernel_rfl) (by kernel_rfl) (fun _ _ _ h => h) (Or.inl ⟨?_, ?_⟩) (by assumption) ?_; rotate_left; (focus (first | rfl | (simp [Region.wanted, yielded]; done))); (focus (intro w hSw; (try dsimp only at hSw); go_simp; all_goals (with_reducible rfl))); try simp only [Act.put, List.getElem_toArray, List.getElem_cons_zero, List.getElem_cons_succ, List.setIfInBounds_toArray, List.set_cons_zero, List.set_cons_succ])
          (refine wpAnyH_ready (rs := [2, 7]) (by kernel_rfl) (by simp) ?_; refine AllReadyH.cons (o := _) rfl (fun K hK => ?_) (AllReadyH.cons (o := _) rfl (fun K hK => ?_) AllReadyH.nil))
          · go_simp
            refine (turned_any A6 R6.length c6 R6 _ rfl (D7.out.below hHeld)).mono ?_
            rintro e v1 ⟨A8, c8, rfl, D8, d1⟩
            have D8 := Lib.hid D8
            (refine hK.out _ _ (OldB.then hHeld d1) (fun hHeld2 => ?_); clear hK K hHeld; have hHeld := hHeld2; clear hHeld2; try simp only [Act.put, List.getElem_toArray, List.getElem_cons_zero, List.getElem_cons_succ, List.setIfInBounds_toArray, List.set_cons_zero, List.set_cons_succ])
            (refine wpAnyH_ready (rs := [3, 7]) (by kernel_rfl) (by simp) ?_; refine AllReadyH.cons (o := _) rfl (fun K hK => ?_) (AllReadyH.cons (o := _) rfl (fun K hK => ?_) AllReadyH.nil))
            · go_simp
              have PT := hpat (d := c8) HN2.out (by omega) hd (M7.out _ hHeld) (show Ds _ A8 (R6.map turnV) from by first | exact D8.out | exact D8.out.below ((Below.refl _ _).alloc (Nat.le_refl _) _)) _ 0 (by rw [turnV_d, E6.out, ← TU.out]; exact PF2.out)
              rw [List.length_map] at PT
              refine PT.mono ?_
              rintro e v2 h3
              obtain ⟨A2, c2, R2, rfl, M2, E9, C2, d2⟩ := mapE_ok h3
              clear h3 PT
              (refine hK.out _ _ (OldB.then hHeld d2) (fun hHeld2 => ?_); clear hK K hHeld; have hHeld := hHeld2; clear hHeld2; try simp only [Act.put, List.getElem_toArray, List.getElem_cons_zero, List.getElem_cons_succ, List.setIfInBounds_toArray, List.set_cons_zero, List.set_cons_succ])
              (refine wpAnyH_take (i := 4) (oi := _) (v := ?_) rfl (by kernel_rfl) (by kernel_rfl) (by kernel_rfl) (fun _ _ _ h => h) (Or.inl ⟨?_, ?_⟩) (by assumption) ?_; rotate_left; (focus (first | rfl | (simp [Region.wanted, yielded]; done))); (focus (intro w hSw; (try dsimp only at hSw); go_simp; all_goals (with_reducible rfl))); try simp only [Act.put, List.getElem_toArray, List.getElem_cons_zero, List.getElem_cons_succ, List.setIfInBounds_toArray, List.set_cons_zero, List.set_cons_succ])
              (refine wpAnyH_take (i := 5) (oi := _) (v := ?_) rfl (by kernel_rfl) (by kernel_rfl) (by kernel_rfl) (fun _ _ _ h => h) (Or.inl ⟨?_, ?_⟩) (by assumption) ?_; rotate_left; (focus (first | rfl | (simp [Region.wanted, yielded]; done))); (focus (intro w hSw; (try dsimp only at hSw); go_simp; all_goals (with_reducible rfl))); try simp only [Act.put, List.getElem_toArray, List.getElem_cons_zero, List.getElem_cons_succ, List.setIfInBounds_toArray, List.set_cons_zero, List.set_cons_succ])
              (refine wpAnyH_take (i := 6) (oi := _) (v := ?_) rfl (by kernel_rfl) (by kernel_rfl) (by kernel_rfl) (fun _ _ _ h => h) (Or.inl ⟨?_, ?_⟩) (by assumption) ?_; rotate_left; (focus (first | rfl | (simp [Region.wanted, yielded]; done))); (focus (intro w hSw; (try dsimp only at hSw); go_simp; all_goals (with_reducible rfl))); try simp only [Act.put, List.getElem_toArray, List.getElem_cons_zero, List.getElem_cons_succ, List.setIfInBounds_toArray, List.set_cons_zero, List.set_cons_succ])
              have hp := Below.size (show Below _ _ _ from hHeld)
              have HH0 := Lib.hid hHeld
              (refine wpAnyH_ready (rs := [7]) (by kernel_rfl) (by simp) ?_; refine AllReadyH.cons (o := _) rfl (fun K hK => ?_) AllReadyH.nil; go_simp)
              (refine hK.out _ _ (OldB.alloc hHeld _) (fun hHeld2 => ?_); clear hK K hHeld; have hHeld := hHeld2; clear hHeld2; try simp only [Act.put, List.getElem_toArray, List.getElem_cons_zero, List.getElem_cons_succ, List.setIfInBounds_toArray, List.set_cons_zero, List.set_cons_succ])
              first | have HG := Lib.hid (box_new hHeld) | have HG := Lib.hid (box_newD hHeld)
              try simp only [World.size_alloc, World.size_drew] at hp
              try simp only [World.size_alloc, World.size_drew] at HG
              have k0 := cell_of_row _ _ 0 _ _ _ HG.out
              have f0 := free_blk HG.out 0
              simp at k0 f0
              (refine wpAnyH_ready (rs := [8]) (by kernel_rfl) (by simp) ?_; refine AllReadyH.cons (o := _) rfl (fun K hK => ?_) AllReadyH.nil; go_simp)
              (refine hK.out _ _ (OldB.alloc HH0.out _) (fun hHeld2 => ?_); clear hK K hHeld; have hHeld := hHeld2; clear hHeld2; try simp only [Act.put, List.getElem_toArray, List.getElem_cons_zero, List.getElem_cons_succ, List.setIfInBounds_toArray, List.set_cons_zero, List.set_cons_succ])
              (refine wpAnyH_take (i := 9) (oi := _) (v := ?_) rfl (by kernel_rfl) (by kernel_rfl) (by kernel_rfl) (fun _ _ _ h => h) (Or.inl ⟨?_, ?_⟩) (by assumption) ?_; rotate_left; (focus (first | rfl | (simp [Region.wanted, yielded]; done))); (focus (intro w hSw; (try dsimp only at hSw); go_simp; all_goals (with_reducible rfl))); try simp only [Act.put, List.getElem_toArray, List.getElem_cons_zero, List.getElem_cons_succ, List.setIfInBounds_toArray, List.set_cons_zero, List.set_cons_succ])
              have OW := Lib.hid hHeld
              (refine wpAnyH_done (by kernel_rfl) ?_ _; refine NoPanic.normal ?_)
              go_wp2_with fail
              go_meet
              first
                | exact ⟨_, A2, c2, R2, rfl, rfl, Lib.hid ⟨Live.set HG.out M2 C2, E9⟩, OW⟩
                | exact ⟨_, A2, c2, R2, rfl, rfl, Lib.hid ⟨Live.set HG.out (M2.below ((Below.refl _ _).alloc (Nat.le_refl _) _)) C2, E9⟩, OW⟩
                | exact ⟨_, A2, c2, R2, rfl, rfl, Lib.hid ⟨Live.new M2 C2, E9⟩, OW⟩
            · go_simp
              have hp := Below.size (show Below _ _ _ from hHeld)
              have HH0 := Lib.hid hHeld
              (refine hK.out _ _ (OldB.alloc hHeld _) (fun hHeld2 => ?_); clear hK K hHeld; have hHeld := hHeld2; clear hHeld2; try simp only [Act.put, List.getElem_toArray, List.getElem_cons_zero, List.getElem_cons_succ, List.setIfInBounds_toArray, List.set_cons_zero, List.set_cons_succ])
              first | have HG := Lib.hid (box_new hHeld) | have HG := Lib.hid (box_newD hHeld)
              try simp only [World.size_alloc, World.size_drew] at hp
              try simp only [World.size_alloc, World.size_drew] at HG
              (refine wpAnyH_ready (rs := [3]) (by kernel_rfl) (by simp) ?_; refine AllReadyH.cons (o := _) rfl (fun K hK => ?_) AllReadyH.nil; go_simp)
              have PT := hpat (d := c8) HN2.out (by omega) hd (M7.out _ hHeld) (show Ds _ A8 (R6.map turnV) from by first | exact D8.out | exact D8.out.below ((Below.refl _ _).alloc (Nat.le_refl _) _)) _ 0 (by rw [turnV_d, E6.out, ← TU.out]; exact PF2.out)
              rw [List.length_map] at PT
              refine PT.mono ?_
              rintro e v2 h3
              obtain ⟨A2, c2, R2, rfl, M2, E9, C2, d2⟩ := mapE_ok h3
              clear h3 PT
              (refine hK.out _ _ (OldB.then hHeld d2) (fun hHeld2 => ?_); clear hK K hHeld; have hHeld := hHeld2; clear hHeld2; try simp only [Act.put, List.getElem_toArray, List.getElem_cons_zero, List.getElem_cons_succ, List.setIfInBounds_toArray, List.set_cons_zero, List.set_cons_succ])
              have HG := Lib.hid ((d2.block _ (lt_of_block HG.out)).trans HG.out)
              (refine wpAnyH_take (i := 4) (oi := _) (v := ?_) rfl (by kernel_rfl) (by kernel_rfl) (by kernel_rfl) (fun _ _ _ h => h) (Or.inl ⟨?_, ?_⟩) (by assumption) ?_; rotate_left; (focus (first | rfl | (simp [Region.wanted, yielded]; done))); (focus (intro w hSw; (try dsimp only at hSw); go_simp; all_goals (with_reducible rfl))); try simp only [Act.put, List.getElem_toArray, List.getElem_cons_zero, List.getElem_cons_succ, List.setIfInBounds_toArray, List.set_cons_zero, List.set_cons_succ])
              (refine wpAnyH_take (i := 5) (oi := _) (v := ?_) rfl (by kernel_rfl) (by kernel_rfl) (by kernel_rfl) (fun _ _ _ h => h) (Or.inl ⟨?_, ?_⟩) (by assumption) ?_; rotate_left; (focus (first | rfl | (simp [Region.wanted, yielded]; done))); (focus (intro w hSw; (try dsimp only at hSw); go_simp; all_goals (with_reducible rfl))); try simp only [Act.put, List.getElem_toArray, List.getElem_cons_zero, List.getElem_cons_succ, List.setIfInBounds_toArray, List.set_cons_zero, List.set_cons_succ])
              (refine wpAnyH_take (i := 6) (oi := _) (v := ?_) rfl (by kernel_rfl) (by kernel_rfl) (by kernel_rfl) (fun _ _ _ h => h) (Or.inl ⟨?_, ?_⟩) (by assumption) ?_; rotate_left; (focus (first | rfl | (simp [Region.wanted, yielded]; done))); (focus (intro w hSw; (try dsimp only at hSw); go_simp; all_goals (with_reducible rfl))); try simp only [Act.put, List.getElem_toArray, List.getElem_cons_zero, List.getElem_cons_succ, List.setIfInBounds_toArray, List.set_cons_zero, List.set_cons_succ])
              have k0 := cell_of_row _ _ 0 _ _ _ HG.out
              have f0 := free_blk HG.out 0
              simp at k0 f0
              (refine wpAnyH_ready (rs := [8]) (by kernel_rfl) (by simp) ?_; refine AllReadyH.cons (o := _) rfl (fun K hK => ?_) AllReadyH.nil; go_simp)
              (refine hK.out _ _ (OldB.set hHeld hp 0 _) (fun hHeld2 => ?_); clear hK K hHeld; have hHeld := hHeld2; clear hHeld2; try simp only [Act.put, List.getElem_toArray, List.getElem_cons_zero, List.getElem_cons_succ, List.setIfInBounds_toArray, List.set_cons_zero, List.set_cons_succ])
              (refine wpAnyH_take (i := 9) (oi := _) (v := ?_) rfl (by kernel_rfl) (by kernel_rfl) (by kernel_rfl) (fun _ _ _ h => h) (Or.inl ⟨?_, ?_⟩) (by assumption) ?_; rotate_left; (focus (first | rfl | (simp [Region.wanted, yielded]; done))); (focus (intro w hSw; (try dsimp only at hSw); go_simp; all_goals (with_reducible rfl))); try simp only [Act.put, List.getElem_toArray, List.getElem_cons_zero, List.getElem_cons_succ, List.setIfInBounds_toArray, List.set_cons_zero, List.set_cons_succ])
              have OW := Lib.hid hHeld
              (refine wpAnyH_done (by kernel_rfl) ?_ _; refine NoPanic.normal ?_)
              go_wp2_with fail
              go_meet
              first
                | exact ⟨_, A2, c2, R2, rfl, rfl, Lib.hid ⟨Live.set HG.out M2 C2, E9⟩, OW⟩
                | exact ⟨_, A2, c2, R2, rfl, rfl, Lib.hid ⟨Live.set HG.out (M2.below ((Below.refl _ _).alloc (Nat.le_refl _) _)) C2, E9⟩, OW⟩
                | exact ⟨_, A2, c2, R2, rfl, rfl, Lib.hid ⟨Live.new M2 C2, E9⟩, OW⟩
          · go_simp
            have hp := Below.size (show Below _ _ _ from hHeld)
            have HH0 := Lib.hid hHeld
            (refine hK.out _ _ (OldB.alloc hHeld _) (fun hHeld2 => ?_); clear hK K hHeld; have hHeld := hHeld2; clear hHeld2; try simp only [Act.put, List.getElem_toArray, List.getElem_cons_zero, List.getElem_cons_succ, List.setIfInBounds_toArray, List.set_cons_zero, List.set_cons_succ])
            first | have HG := Lib.hid (box_new hHeld) | have HG := Lib.hid (box_newD hHeld)
            try simp only [World.size_alloc, World.size_drew] at hp
            try simp only [World.size_alloc, World.size_drew] at HG
            (refine wpAnyH_ready (rs := [2]) (by kernel_rfl) (by simp) ?_; refine AllReadyH.cons (o := _) rfl (fun K hK => ?_) AllReadyH.nil; go_simp)
            refine (turned_any A6 R6.length c6 R6 _ rfl (D7.out.below hHeld)).mono ?_
            rintro e v1 ⟨A8, c8, rfl, D8, d1⟩
            have D8 := Lib.hid D8
            (refine hK.out _ _ (OldB.then hHeld d1) (fun hHeld2 => ?_); clear hK K hHeld; have hHeld := hHeld2; clear hHeld2; try simp only [Act.put, List.getElem_toArray, List.getElem_cons_zero, List.getElem_cons_succ, List.setIfInBounds_toArray, List.set_cons_zero, List.set_cons_succ])
            have HG := Lib.hid ((d1.block _ (lt_of_block HG.out)).trans HG.out)
            (refine wpAnyH_ready (rs := [3]) (by kernel_rfl) (by simp) ?_; refine AllReadyH.cons (o := _) rfl (fun K hK => ?_) AllReadyH.nil; go_simp)
            have PT := hpat (d := c8) HN2.out (by omega) hd (M7.out _ hHeld) (show Ds _ A8 (R6.map turnV) from by first | exact D8.out | exact D8.out.below ((Below.refl _ _).alloc (Nat.le_refl _) _)) _ 0 (by rw [turnV_d, E6.out, ← TU.out]; exact PF2.out)
            rw [List.length_map] at PT
            refine PT.mono ?_
            rintro e v2 h3
            obtain ⟨A2, c2, R2, rfl, M2, E9, C2, d2⟩ := mapE_ok h3
            clear h3 PT
            (refine hK.out _ _ (OldB.then hHeld d2) (fun hHeld2 => ?_); clear hK K hHeld; have hHeld := hHeld2; clear hHeld2; try simp only [Act.put, List.getElem_toArray, List.getElem_cons_zero, List.getElem_cons_succ, List.setIfInBounds_toArray, List.set_cons_zero, List.set_cons_succ])
            have HG := Lib.hid ((d2.block _ (lt_of_block HG.out)).trans HG.out)
            (refine wpAnyH_take (i := 4) (oi := _) (v := ?_) rfl (by kernel_rfl) (by kernel_rfl) (by kernel_rfl) (fun _ _ _ h => h) (Or.inl ⟨?_, ?_⟩) (by assumption) ?_; rotate_left; (focus (first | rfl | (simp [Region.wanted, yielded]; done))); (focus (intro w hSw; (try dsimp only at hSw); go_simp; all_goals (with_reducible rfl))); try simp only [Act.put, List.getElem_toArray, List.getElem_cons_zero, List.getElem_cons_succ, List.setIfInBounds_toArray, List.set_cons_zero, List.set_cons_succ])
            (refine wpAnyH_take (i := 5) (oi := _) (v := ?_) rfl (by kernel_rfl) (by kernel_rfl) (by kernel_rfl) (fun _ _ _ h => h) (Or.inl ⟨?_, ?_⟩) (by assumption) ?_; rotate_left; (focus (first | rfl | (simp [Region.wanted, yielded]; done))); (focus (intro w hSw; (try dsimp only at hSw); go_simp; all_goals (with_reducible rfl))); try simp only [Act.put, List.getElem_toArray, List.getElem_cons_zero, List.getElem_cons_succ, List.setIfInBounds_toArray, List.set_cons_zero, List.set_cons_succ])
            (refine wpAnyH_take (i := 6) (oi := _) (v := ?_) rfl (by kernel_rfl) (by kernel_rfl) (by kernel_rfl) (fun _ _ _ h => h) (Or.inl ⟨?_, ?_⟩) (by assumption) ?_; rotate_left; (focus (first | rfl | (simp [Region.wanted, yielded]; done))); (focus (intro w hSw; (try dsimp only at hSw); go_simp; all_goals (with_reducible rfl))); try simp only [Act.put, List.getElem_toArray, List.getElem_cons_zero, List.getElem_cons_succ, List.setIfInBounds_toArray, List.set_cons_zero, List.set_cons_succ])
            have k0 := cell_of_row _ _ 0 _ _ _ HG.out
            have f0 := free_blk HG.out 0
            simp at k0 f0
            (refine wpAnyH_ready (rs := [8]) (by kernel_rfl) (by simp) ?_; refine AllReadyH.cons (o := _) rfl (fun K hK => ?_) AllReadyH.nil; go_simp)
            (refine hK.out _ _ (OldB.set hHeld hp 0 _) (fun hHeld2 => ?_); clear hK K hHeld; have hHeld := hHeld2; clear hHeld2; try simp only [Act.put, List.getElem_toArray, List.getElem_cons_zero, List.getElem_cons_succ, List.setIfInBounds_toArray, List.set_cons_zero, List.set_cons_succ])
            (refine wpAnyH_take (i := 9) (oi := _) (v := ?_) rfl (by kernel_rfl) (by kernel_rfl) (by kernel_rfl) (fun _ _ _ h => h) (Or.inl ⟨?_, ?_⟩) (by assumption) ?_; rotate_left; (focus (first | rfl | (simp [Region.wanted, yielded]; done))); (focus (intro w hSw; (try dsimp only at hSw); go_simp; all_goals (with_reducible rfl))); try simp only [Act.put, List.getElem_toArray, List.getElem_cons_zero, List.getElem_cons_succ, List.setIfInBounds_toArray, List.set_cons_zero, List.set_cons_succ])
            have OW := Lib.hid hHeld
            (refine wpAnyH_done (by kernel_rfl) ?_ _; refine NoPanic.normal ?_)
            go_wp2_with fail
            go_meet
            first
              | exact ⟨_, A2, c2, R2, rfl, rfl, Lib.hid ⟨Live.set HG.out M2 C2, E9⟩, OW⟩
              | exact ⟨_, A2, c2, R2, rfl, rfl, Lib.hid ⟨Live.set HG.out (M2.below ((Below.refl _ _).alloc (Nat.le_refl _) _)) C2, E9⟩, OW⟩
              | exact ⟨_, A2, c2, R2, rfl, rfl, Lib.hid ⟨Live.new M2 C2, E9⟩, OW⟩
        case rest =>
          obtain ⟨g8, A2, c2, R2, rfl, rfl, LX, OW⟩ := hcut
          generalize wc = u8 at *
          have L7 := Lib.hid (L7.out.below OW.out)
          have D8 := Lib.hid (D7.out.below OW.out)
          have B8 := Lib.hid (B7.out.trans (Below.mono OW.out B7.out.size))
          have E9 := Lib.hid LX.out.2
          have L8 := Lib.hid LX.out.1
          clear LX OW K1 M7 B7
          obtain ⟨k0, k1, MS8, MT8, bw8⟩ := E2.out u8 B8.out
          have k7 := L7.out.cell
          have k8 := L8.out.cell
          have SA := Lib.hid (rsamem_any A7 B c7 d R7 l' R7.length m u8 rfl HN2.out L7.out.ms MT8)
          rw [E7.out, At.sameL_iff.2 rfl] at SA
          clear MS8 MT8 bw8
          go_wp2_with fail
          refine SA.out.mono ?_
          rintro e u9 ⟨rfl, b9⟩
          have L8 := Lib.hid (L8.out.below b9)
          have D9 := Lib.hid (D8.out.below b9)
          have B9 := Lib.hid (B8.out.trans (Below.mono b9 B8.out.size))
          obtain ⟨k0, k1, MS9, MT9, bw9⟩ := E2.out u9 B9.out
          have k8 := L8.out.cell
          have SB := Lib.hid (rsamem_any A2 A c2 c R2 l R2.length n u9 rfl HN.out L8.out.ms MS9)
          rw [E9.out, At.sameL_iff.2 rfl] at SB
          clear b9 B8 D8 L7 SA MS9 MT9 bw9 k7
          go_wp2_with fail
          refine SB.out.mono ?_
          rintro e u10 ⟨rfl, b10⟩
          have D10 := Lib.hid (D9.out.below b10)
          have B10 := Lib.hid (B9.out.trans (Below.mono b10 B9.out.size))
          obtain ⟨k0, k1, MS9, MT9, bw9⟩ := E2.out u10 B10.out
          have SC := Lib.hid (asame_any A B c d l l' n m u10 HN.out HN2.out MS9 MT9)
          clear b10 B9 D9 L8 SB k8 MS9 MT9 bw9
          have LQ : Hid (decide ((R6.length : Int) = 0) = At.sameL (cts l) (cts l')) := Lib.hid (by
            have e1 : R6.length = (At.diffG (cts l) (cts l')).length := by rw [← E6.out]; simp
            cases hs : At.sameL (cts l) (cts l') with
            | true => rw [(NI.out).2 (At.sameL_iff.1 hs), List.length_nil] at e1; exact decide_eq_true (by omega)
            | false =>
              have : At.diffG (cts l) (cts l') ≠ [] := fun e => by rw [At.sameL_iff.2 (NI.out.1 e)] at hs; cases hs
              have := List.length_pos_iff.2 this
              exact decide_eq_false (by omega))
          generalize At.sameL (cts l) (cts l') = SL at *
          have q0 : ((R6.length : Int) == 0) = SL := by rw [← LQ.out]; rfl
          go_wp2_with fail
          refine SC.out.mono ?_
          rintro e u11 ⟨rfl, b11⟩
          have D11 := Lib.hid (D10.out.below b11)
          have B11 := Lib.hid (B10.out.trans (Below.mono b11 B10.out.size))
          obtain ⟨k0, k1, MS9, MT9, bw9⟩ := E2.out u11 B11.out
          have DB := Lib.hid (hdiff HN2.out HN.out (by omega) (by omega) hd hc MT9 MS9 HV2.out HV.out)
          clear b11 B10 D10 SC MS9 MT9 bw9
          go_wp2_with fail
          refine DB.out.mono ?_
          rintro e u12 ⟨A12, c12, R12, rfl, D12, E12, b12⟩
          have D12 := Lib.hid D12
          have E12 := Lib.hid E12
          have D13 := Lib.hid (D11.out.below b12)
          have B12 := Lib.hid (B11.out.trans (Below.mono b12 B11.out.size))
          have TN := Lib.hid (turned_any A6 R6.length c6 R6 u12 rfl D13.out)
          clear b12 B11 D11 DB k0 k1
          go_wp2_with fail
          refine TN.out.mono ?_
          rintro e u13 ⟨A13, c13, rfl, D14, b13⟩
          have B13 := Lib.hid (B12.out.trans (Below.mono b13 B12.out.size))
          have SD := Lib.hid (samed_eq A12 A13 R12.length R6.length c12 c13 R12 (R6.map turnV) u13 rfl (by rw [List.length_map]) (by rw [E12.out, turnV_d, E6.out, TU.out]) (D12.out.below b13) D14)
          obtain ⟨-, -, -, -, bw13⟩ := E2.out u13 B13.out
          have BW := Lib.hid bw13
          clear b13 B12 D12 D13 TN bw13 D14
          go_wp2_with fail
          refine SD.out.mono ?_
          rintro e u14 ⟨rfl, b14⟩
          have BZ := Lib.hid (BW.out.trans (Below.mono b14 BW.out.size))
          clear b14
          go_wp2_with fail
          go_ret
          exact ⟨by simp, BZ.out⟩
end Go.Proofs.YtlejeelmlclnkaaGreatDoor
