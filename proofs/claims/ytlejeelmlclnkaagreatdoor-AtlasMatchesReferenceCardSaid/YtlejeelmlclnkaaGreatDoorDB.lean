/- WALK: the head of the laws of atlas. -/
import Derived.Test.YtlejeelmlclnkaaGreatDoorDA
import Derived.Deep.DeepCutAuto
import Derived.Test.YtlejeelmlclnkaaGreatDoorWD
set_option linter.unusedSimpArgs false
set_option linter.unusedVariables false
namespace Go.Proofs.YtlejeelmlclnkaaGreatDoor
open Go.RowKit

theorem mapE_ok {w : World} {L : List At.Ob} {e : Ending} {w' : World} (h : MapE w (L, 0) e w') : ∃ A c R, e = .returned (.tuple #[.agg #[.slice A R.length c], .int .i64 0]) ∧ Ms w' A R ∧ cts R = L ∧ R.length ≤ c ∧ Below w.heap.size w w' := h
theorem cts_length {R : List RO} {L : List At.Ob} (h : cts R = L) : R.length = L.length := by rw [← h, cts_len]
theorem hput {A : Option Addr} {c : Nat} {R : List RO} {w : World} (hM : Ms w A R) (o : RO) (is : ObIs w o) (sz : ObSz o.c ∧ o.c.refs.length ≤ 100000) (L L' : List At.Ob) (hE : cts R = L) (hp : putM L o.c = (L', 0)) (hl : L.length ≤ 1000) :
    Calls Tryz.prog 25 #[.agg #[.slice A R.length c], roA o] w (MapE w (L', 0)) := by
  have := put_any A R.length c R o w rfl (by rw [cts_length hE]; omega) hM is sz
  rwa [hE, hp] at this
theorem digestM_len (l : List At.Ob) : (digestM l).length ≤ 16 := by
  unfold digestM
  split
  · have := Dg.sumL_isD (Dg.joined (l.map digestF))
    unfold Dg.isD at this
    simp only [Bool.and_eq_true, decide_eq_true_eq, beq_iff_eq] at this
    omega
  · simp
def dv1 : DV := ⟨[98], false, true, zeroRO, nodeR [98] 5 6⟩
theorem hpatch {A B : Option Addr} {c : Nat} {R : List RO} {w : World} (hM : Ms w A R) (hc : R.length ≤ c) (hD : Rd w B (dvsC [dv1])) (hE : cts R = [hA, hC]) :
    Calls Tryz.prog 14 #[.agg #[.slice A R.length c], .slice B 1 1] w (MapE w ([hA, hB, hC], 0)) := by
  have := patch_any A B R.length c 1 1 R [dv1] w rfl rfl (by rw [cts_length hE]; decide) hM hc ⟨hD, fun d hd => by rw [List.mem_singleton.1 hd]; exact ⟨zeroIs _, nodeIs _ _ _ _⟩, fun d hd => by rw [List.mem_singleton.1 hd]; exact ⟨by decide, zeroSz, nodeSz _ _ _ (by decide)⟩, by decide⟩
  rw [hE] at this
  exact this
theorem hWsz : ObSz hW ∧ hW.refs.length ≤ 100000 := ⟨⟨by decide, by decide, by intro s hs; simp [hW] at hs; rcases hs with rfl | rfl <;> decide, by decide, by intro t ht; simp [hW] at ht⟩, by decide⟩
theorem hXsz : ObSz hX ∧ hX.refs.length ≤ 100000 := ⟨⟨by decide, by decide, by intro s hs; simp [hX] at hs; rcases hs with rfl | rfl <;> decide, by decide, by intro t ht; simp [hX] at ht⟩, by decide⟩
theorem hdrop {A : Option Addr} {c : Nat} {R : List RO} {w : World} (hM : Ms w A R) (id : Tx) (L L' : List At.Ob) (hE : cts R = L) (hp : dropM L id = (L', 0)) :
    Calls Tryz.prog 29 #[.agg #[.slice A R.length c], .string (mkB id)] w (MapE w (L', 0)) := by
  have := drop_any A R.length c R id w rfl hM
  rwa [hE, hp] at this
set_option maxHeartbeats 8000000 in
set_option maxRecDepth 100000 in
theorem head_any (w : World) (ht : Tab w) : Calls Tryz.prog 10 #[] w fun e w' => e = .returned (.bool true) ∧ Below w.heap.size w w' := by
  have HT := Lib.hid ht
  clear ht
  have NA := Lib.hid (fun u : World => node_any [97] 1 2 u)
  have NB := Lib.hid (fun u : World => node_any [98] 5 6 u)
  have NC := Lib.hid (fun u : World => node_any [99] 3 4 u)
  have ea : (ByteArray.mk #[97]) = mkB [97] := rfl
  have eb : (ByteArray.mk #[98]) = mkB [98] := rfl
  have ec : (ByteArray.mk #[99]) = mkB [99] := rfl
  have ew : (ByteArray.mk #[119]) = mkB [119] := rfl
  have ex : (ByteArray.mk #[120]) = mkB [120] := rfl
  go_enter Tryz.func10, Tryz.ntmps10
  go_wp2_with fail
  refine (NA.out _).mono ?_
  rintro e u0 ⟨rfl, b0⟩
  have B0 := Lib.hid b0
  clear b0
  go_wp2_with fail
  refine (hput (c := 0) (Ms.nil u0) (nodeR [97] 1 2) (nodeIs _ _ _ _) (nodeSz _ _ _ (by decide)) [] _ rfl hd1 (by decide)).mono ?_
  rintro e u1 h1
  obtain ⟨A1, c1, R1, rfl, M1, E1, C1, b1⟩ := mapE_ok h1
  have L1 := Lib.hid (Live.new M1 C1)
  have E1 := Lib.hid E1
  have B1 := Lib.hid ((B0.out.trans (Below.mono b1 B0.out.size)).alloc (Nat.le_trans B0.out.size b1.size) (.cells #[.slice A1 R1.length c1] 24))
  have z1 : u1.heap.size < (u1.alloc (.cells #[.slice A1 R1.length c1] 24)).heap.size := by simp
  clear h1 M1 C1 b1 B0
  go_wp2_with fail
  generalize u1.alloc (.cells #[.slice A1 R1.length c1] 24) = w1 at *
  generalize u1.heap.size = g1 at *
  have K1 : ∀ u, OldB w1 u → u.cell? ⟨g1, 0, none⟩ = some (.slice A1 R1.length c1) := fun u hu => (L1.out.below hu).cell
  go_cut [3, 4] (fun s3 s4 wx => ∃ (p : Nat) (A : Option Addr) (c : Nat) (R : List RO), s3 = .pointer (some ⟨p, 0, none⟩) ∧ s4 = .int .i64 0 ∧ Hid (Live wx p A c R ∧ cts R = [hA, hC]) ∧ Hid (OldB w1 wx))
  case first =>
    (refine wp_region_noPanic ?_; refine wp_region_held_drew (S := (OldB w1)) (by kernel_rfl) ?_ (fun hHeld => ?_); exact Below.drew (Below.refl _ _))
    (refine tkW 0 ?_; try simp only [gmS])
    (refine wpAnyH_ready (rs := [1, 6]) (by kernel_rfl) (by simp) ?_; refine AllReadyH.cons (o := _) rfl (fun K hK => ?_) (AllReadyH.cons (o := _) rfl (fun K hK => ?_) AllReadyH.nil))
    · go_simp
      refine (NC.out _).mono ?_
      rintro e v1 ⟨rfl, d1⟩
      (refine hK.out _ _ (OldB.then hHeld d1) (fun hHeld2 => ?_); clear hK K hHeld; have hHeld := hHeld2; clear hHeld2; try simp only [gmS])
      (refine wpAnyH_ready (rs := [2, 6]) (by kernel_rfl) (by simp) ?_; refine AllReadyH.cons (o := _) rfl (fun K hK => ?_) (AllReadyH.cons (o := _) rfl (fun K hK => ?_) AllReadyH.nil))
      · go_simp
        refine (hput (L1.out.below hHeld).ms (nodeR [99] 3 4) (nodeIs _ _ _ _) (nodeSz _ _ _ (by decide)) _ _ E1.out hd2 (by decide)).mono ?_
        rintro e v2 h3
        obtain ⟨A2, c2, R2, rfl, M2, E2, C2, d2⟩ := mapE_ok h3
        clear h3
        (refine hK.out _ _ (OldB.then hHeld d2) (fun hHeld2 => ?_); clear hK K hHeld; have hHeld := hHeld2; clear hHeld2; try simp only [gmS])
        (refine tkW 3 ?_; try simp only [gmS])
        (refine tkW 4 ?_; try simp only [gmS])
        (refine tkW 5 ?_; try simp only [gmS])
        have hp := Below.size (show Below _ _ _ from hHeld)
        have HH0 := Lib.hid hHeld
        (refine rdW 6 (fun K hK => ?_); go_simp)
        (refine hK.out _ _ (OldB.alloc hHeld _) (fun hHeld2 => ?_); clear hK K hHeld; have hHeld := hHeld2; clear hHeld2; try simp only [gmS])
        first | have HG := Lib.hid (box_new hHeld) | have HG := Lib.hid (box_newD hHeld)
        try simp only [World.size_alloc, World.size_drew] at hp
        try simp only [World.size_alloc, World.size_drew] at HG
        have k0 := cell_of_row _ _ 0 _ _ _ HG.out
        have f0 := free_blk HG.out 0
        simp at k0 f0
        (refine rdW 7 (fun K hK => ?_); go_simp)
        (refine hK.out _ _ (OldB.alloc HH0.out _) (fun hHeld2 => ?_); clear hK K hHeld; have hHeld := hHeld2; clear hHeld2; try simp only [gmS])
        (refine tkW 8 ?_; try simp only [gmS])
        have OW := Lib.hid hHeld
        (refine wpAnyH_done (by kernel_rfl) ?_ _; refine NoPanic.normal ?_)
        go_wp2_with fail
        go_meet
        first
          | exact ⟨_, A2, c2, R2, rfl, rfl, Lib.hid ⟨Live.set HG.out M2 C2, E2⟩, OW⟩
          | exact ⟨_, A2, c2, R2, rfl, rfl, Lib.hid ⟨Live.set HG.out (M2.below ((Below.refl _ _).alloc (Nat.le_refl _) _)) C2, E2⟩, OW⟩
          | exact ⟨_, A2, c2, R2, rfl, rfl, Lib.hid ⟨Live.new M2 C2, E2⟩, OW⟩
      · go_simp
        have hp := Below.size (show Below _ _ _ from hHeld)
        have HH0 := Lib.hid hHeld
        (refine hK.out _ _ (OldB.alloc hHeld _) (fun hHeld2 => ?_); clear hK K hHeld; have hHeld := hHeld2; clear hHeld2; try simp only [gmS])
        first | have HG := Lib.hid (box_new hHeld) | have HG := Lib.hid (box_newD hHeld)
        try simp only [World.size_alloc, World.size_drew] at hp
        try simp only [World.size_alloc, World.size_drew] at HG
        (refine rdW 2 (fun K hK => ?_); go_simp)
        refine (hput (L1.out.below hHeld).ms (nodeR [99] 3 4) (nodeIs _ _ _ _) (nodeSz _ _ _ (by decide)) _ _ E1.out hd2 (by decide)).mono ?_
        rintro e v2 h3
        obtain ⟨A2, c2, R2, rfl, M2, E2, C2, d2⟩ := mapE_ok h3
        clear h3
        (refine hK.out _ _ (OldB.then hHeld d2) (fun hHeld2 => ?_); clear hK K hHeld; have hHeld := hHeld2; clear hHeld2; try simp only [gmS])
        have HG := Lib.hid ((d2.block _ (lt_of_block HG.out)).trans HG.out)
        (refine tkW 3 ?_; try simp only [gmS])
        (refine tkW 4 ?_; try simp only [gmS])
        (refine tkW 5 ?_; try simp only [gmS])
        have k0 := cell_of_row _ _ 0 _ _ _ HG.out
        have f0 := free_blk HG.out 0
        simp at k0 f0
        (refine rdW 7 (fun K hK => ?_); go_simp)
        (refine hK.out _ _ (OldB.set hHeld hp 0 _) (fun hHeld2 => ?_); clear hK K hHeld; have hHeld := hHeld2; clear hHeld2; try simp only [gmS])
        (refine tkW 8 ?_; try simp only [gmS])
        have OW := Lib.hid hHeld
        (refine wpAnyH_done (by kernel_rfl) ?_ _; refine NoPanic.normal ?_)
        go_wp2_with fail
        go_meet
        first
          | exact ⟨_, A2, c2, R2, rfl, rfl, Lib.hid ⟨Live.set HG.out M2 C2, E2⟩, OW⟩
          | exact ⟨_, A2, c2, R2, rfl, rfl, Lib.hid ⟨Live.set HG.out (M2.below ((Below.refl _ _).alloc (Nat.le_refl _) _)) C2, E2⟩, OW⟩
          | exact ⟨_, A2, c2, R2, rfl, rfl, Lib.hid ⟨Live.new M2 C2, E2⟩, OW⟩
    · go_simp
      have hp := Below.size (show Below _ _ _ from hHeld)
      have HH0 := Lib.hid hHeld
      (refine hK.out _ _ (OldB.alloc hHeld _) (fun hHeld2 => ?_); clear hK K hHeld; have hHeld := hHeld2; clear hHeld2; try simp only [gmS])
      first | have HG := Lib.hid (box_new hHeld) | have HG := Lib.hid (box_newD hHeld)
      try simp only [World.size_alloc, World.size_drew] at hp
      try simp only [World.size_alloc, World.size_drew] at HG
      (refine rdW 1 (fun K hK => ?_); go_simp)
      refine (NC.out _).mono ?_
      rintro e v1 ⟨rfl, d1⟩
      (refine hK.out _ _ (OldB.then hHeld d1) (fun hHeld2 => ?_); clear hK K hHeld; have hHeld := hHeld2; clear hHeld2; try simp only [gmS])
      have HG := Lib.hid ((d1.block _ (lt_of_block HG.out)).trans HG.out)
      (refine rdW 2 (fun K hK => ?_); go_simp)
      refine (hput (L1.out.below hHeld).ms (nodeR [99] 3 4) (nodeIs _ _ _ _) (nodeSz _ _ _ (by decide)) _ _ E1.out hd2 (by decide)).mono ?_
      rintro e v2 h3
      obtain ⟨A2, c2, R2, rfl, M2, E2, C2, d2⟩ := mapE_ok h3
      clear h3
      (refine hK.out _ _ (OldB.then hHeld d2) (fun hHeld2 => ?_); clear hK K hHeld; have hHeld := hHeld2; clear hHeld2; try simp only [gmS])
      have HG := Lib.hid ((d2.block _ (lt_of_block HG.out)).trans HG.out)
      (refine tkW 3 ?_; try simp only [gmS])
      (refine tkW 4 ?_; try simp only [gmS])
      (refine tkW 5 ?_; try simp only [gmS])
      have k0 := cell_of_row _ _ 0 _ _ _ HG.out
      have f0 := free_blk HG.out 0
      simp at k0 f0
      (refine rdW 7 (fun K hK => ?_); go_simp)
      (refine hK.out _ _ (OldB.set hHeld hp 0 _) (fun hHeld2 => ?_); clear hK K hHeld; have hHeld := hHeld2; clear hHeld2; try simp only [gmS])
      (refine tkW 8 ?_; try simp only [gmS])
      have OW := Lib.hid hHeld
      (refine wpAnyH_done (by kernel_rfl) ?_ _; refine NoPanic.normal ?_)
      go_wp2_with fail
      go_meet
      first
        | exact ⟨_, A2, c2, R2, rfl, rfl, Lib.hid ⟨Live.set HG.out M2 C2, E2⟩, OW⟩
        | exact ⟨_, A2, c2, R2, rfl, rfl, Lib.hid ⟨Live.set HG.out (M2.below ((Below.refl _ _).alloc (Nat.le_refl _) _)) C2, E2⟩, OW⟩
        | exact ⟨_, A2, c2, R2, rfl, rfl, Lib.hid ⟨Live.new M2 C2, E2⟩, OW⟩
  case rest =>
  obtain ⟨g2, A2, c2, R2, rfl, rfl, LV, OW⟩ := hcut
  generalize wc = w2 at *
  have L2 := Lib.hid LV.out.1
  have E2 := Lib.hid LV.out.2
  have B2 := Lib.hid (B1.out.trans (Below.mono OW.out B1.out.size))
  have K2 : ∀ u, OldB w2 u → u.cell? ⟨g2, 0, none⟩ = some (.slice A2 R2.length c2) := fun u hu => (L2.out.below hu).cell
  clear LV OW K1 L1 E1 B1 z1
  go_upto_region 3 with fail
  go_cut [5, 6] (fun s3 s4 wx => ∃ (p : Nat) (A : Option Addr) (c : Nat) (R : List RO), s3 = .pointer (some ⟨p, 0, none⟩) ∧ s4 = .int .i64 0 ∧ Hid (Live wx p A c R ∧ cts R = [hA, hB, hC]) ∧ Hid (OldB w2 wx))
  case first =>
    (refine wp_region_noPanic ?_; refine wp_region_held_drew (S := (OldB w2)) (by kernel_rfl) ?_ (fun hHeld => ?_); exact Below.drew (Below.refl _ _))
    (refine tkW 0 ?_; try simp only [gmS])
    (refine wpAnyH_ready (rs := [1, 6]) (by kernel_rfl) (by simp) ?_; refine AllReadyH.cons (o := _) rfl (fun K hK => ?_) (AllReadyH.cons (o := _) rfl (fun K hK => ?_) AllReadyH.nil))
    · go_simp
      refine (NB.out _).mono ?_
      rintro e v1 ⟨rfl, d1⟩
      (refine hK.out _ _ (OldB.then hHeld d1) (fun hHeld2 => ?_); clear hK K hHeld; have hHeld := hHeld2; clear hHeld2; try simp only [gmS])
      (refine wpAnyH_ready (rs := [2, 6]) (by kernel_rfl) (by simp) ?_; refine AllReadyH.cons (o := _) rfl (fun K hK => ?_) (AllReadyH.cons (o := _) rfl (fun K hK => ?_) AllReadyH.nil))
      · go_simp
        refine (hput (L2.out.below hHeld).ms (nodeR [98] 5 6) (nodeIs _ _ _ _) (nodeSz _ _ _ (by decide)) _ _ E2.out hd3 (by decide)).mono ?_
        rintro e v2 h3
        obtain ⟨A2, c2, R2, rfl, M2, E2, C2, d2⟩ := mapE_ok h3
        clear h3
        (refine hK.out _ _ (OldB.then hHeld d2) (fun hHeld2 => ?_); clear hK K hHeld; have hHeld := hHeld2; clear hHeld2; try simp only [gmS])
        (refine tkW 3 ?_; try simp only [gmS])
        (refine tkW 4 ?_; try simp only [gmS])
        (refine tkW 5 ?_; try simp only [gmS])
        have hp := Below.size (show Below _ _ _ from hHeld)
        have HH0 := Lib.hid hHeld
        (refine rdW 6 (fun K hK => ?_); go_simp)
        (refine hK.out _ _ (OldB.alloc hHeld _) (fun hHeld2 => ?_); clear hK K hHeld; have hHeld := hHeld2; clear hHeld2; try simp only [gmS])
        first | have HG := Lib.hid (box_new hHeld) | have HG := Lib.hid (box_newD hHeld)
        try simp only [World.size_alloc, World.size_drew] at hp
        try simp only [World.size_alloc, World.size_drew] at HG
        have k0 := cell_of_row _ _ 0 _ _ _ HG.out
        have f0 := free_blk HG.out 0
        simp at k0 f0
        (refine rdW 7 (fun K hK => ?_); go_simp)
        (refine hK.out _ _ (OldB.alloc HH0.out _) (fun hHeld2 => ?_); clear hK K hHeld; have hHeld := hHeld2; clear hHeld2; try simp only [gmS])
        (refine tkW 8 ?_; try simp only [gmS])
        have OW := Lib.hid hHeld
        (refine wpAnyH_done (by kernel_rfl) ?_ _; refine NoPanic.normal ?_)
        go_wp2_with fail
        go_meet
        first
          | exact ⟨_, A2, c2, R2, rfl, rfl, Lib.hid ⟨Live.set HG.out M2 C2, E2⟩, OW⟩
          | exact ⟨_, A2, c2, R2, rfl, rfl, Lib.hid ⟨Live.set HG.out (M2.below ((Below.refl _ _).alloc (Nat.le_refl _) _)) C2, E2⟩, OW⟩
          | exact ⟨_, A2, c2, R2, rfl, rfl, Lib.hid ⟨Live.new M2 C2, E2⟩, OW⟩
      · go_simp
        have hp := Below.size (show Below _ _ _ from hHeld)
        have HH0 := Lib.hid hHeld
        (refine hK.out _ _ (OldB.alloc hHeld _) (fun hHeld2 => ?_); clear hK K hHeld; have hHeld := hHeld2; clear hHeld2; try simp only [gmS])
        first | have HG := Lib.hid (box_new hHeld) | have HG := Lib.hid (box_newD hHeld)
        try simp only [World.size_alloc, World.size_drew] at hp
        try simp only [World.size_alloc, World.size_drew] at HG
        (refine rdW 2 (fun K hK => ?_); go_simp)
        refine (hput (L2.out.below hHeld).ms (nodeR [98] 5 6) (nodeIs _ _ _ _) (nodeSz _ _ _ (by decide)) _ _ E2.out hd3 (by decide)).mono ?_
        rintro e v2 h3
        obtain ⟨A2, c2, R2, rfl, M2, E2, C2, d2⟩ := mapE_ok h3
        clear h3
        (refine hK.out _ _ (OldB.then hHeld d2) (fun hHeld2 => ?_); clear hK K hHeld; have hHeld := hHeld2; clear hHeld2; try simp only [gmS])
        have HG := Lib.hid ((d2.block _ (lt_of_block HG.out)).trans HG.out)
        (refine tkW 3 ?_; try simp only [gmS])
        (refine tkW 4 ?_; try simp only [gmS])
        (refine tkW 5 ?_; try simp only [gmS])
        have k0 := cell_of_row _ _ 0 _ _ _ HG.out
        have f0 := free_blk HG.out 0
        simp at k0 f0
        (refine rdW 7 (fun K hK => ?_); go_simp)
        (refine hK.out _ _ (OldB.set hHeld hp 0 _) (fun hHeld2 => ?_); clear hK K hHeld; have hHeld := hHeld2; clear hHeld2; try simp only [gmS])
        (refine tkW 8 ?_; try simp only [gmS])
        have OW := Lib.hid hHeld
        (refine wpAnyH_done (by kernel_rfl) ?_ _; refine NoPanic.normal ?_)
        go_wp2_with fail
        go_meet
        first
          | exact ⟨_, A2, c2, R2, rfl, rfl, Lib.hid ⟨Live.set HG.out M2 C2, E2⟩, OW⟩
          | exact ⟨_, A2, c2, R2, rfl, rfl, Lib.hid ⟨Live.set HG.out (M2.below ((Below.refl _ _).alloc (Nat.le_refl _) _)) C2, E2⟩, OW⟩
          | exact ⟨_, A2, c2, R2, rfl, rfl, Lib.hid ⟨Live.new M2 C2, E2⟩, OW⟩
    · go_simp
      have hp := Below.size (show Below _ _ _ from hHeld)
      have HH0 := Lib.hid hHeld
      (refine hK.out _ _ (OldB.alloc hHeld _) (fun hHeld2 => ?_); clear hK K hHeld; have hHeld := hHeld2; clear hHeld2; try simp only [gmS])
      first | have HG := Lib.hid (box_new hHeld) | have HG := Lib.hid (box_newD hHeld)
      try simp only [World.size_alloc, World.size_drew] at hp
      try simp only [World.size_alloc, World.size_drew] at HG
      (refine rdW 1 (fun K hK => ?_); go_simp)
      refine (NB.out _).mono ?_
      rintro e v1 ⟨rfl, d1⟩
      (refine hK.out _ _ (OldB.then hHeld d1) (fun hHeld2 => ?_); clear hK K hHeld; have hHeld := hHeld2; clear hHeld2; try simp only [gmS])
      have HG := Lib.hid ((d1.block _ (lt_of_block HG.out)).trans HG.out)
      (refine rdW 2 (fun K hK => ?_); go_simp)
      refine (hput (L2.out.below hHeld).ms (nodeR [98] 5 6) (nodeIs _ _ _ _) (nodeSz _ _ _ (by decide)) _ _ E2.out hd3 (by decide)).mono ?_
      rintro e v2 h3
      obtain ⟨A2, c2, R2, rfl, M2, E2, C2, d2⟩ := mapE_ok h3
      clear h3
      (refine hK.out _ _ (OldB.then hHeld d2) (fun hHeld2 => ?_); clear hK K hHeld; have hHeld := hHeld2; clear hHeld2; try simp only [gmS])
      have HG := Lib.hid ((d2.block _ (lt_of_block HG.out)).trans HG.out)
      (refine tkW 3 ?_; try simp only [gmS])
      (refine tkW 4 ?_; try simp only [gmS])
      (refine tkW 5 ?_; try simp only [gmS])
      have k0 := cell_of_row _ _ 0 _ _ _ HG.out
      have f0 := free_blk HG.out 0
      simp at k0 f0
      (refine rdW 7 (fun K hK => ?_); go_simp)
      (refine hK.out _ _ (OldB.set hHeld hp 0 _) (fun hHeld2 => ?_); clear hK K hHeld; have hHeld := hHeld2; clear hHeld2; try simp only [gmS])
      (refine tkW 8 ?_; try simp only [gmS])
      have OW := Lib.hid hHeld
      (refine wpAnyH_done (by kernel_rfl) ?_ _; refine NoPanic.normal ?_)
      go_wp2_with fail
      go_meet
      first
        | exact ⟨_, A2, c2, R2, rfl, rfl, Lib.hid ⟨Live.set HG.out M2 C2, E2⟩, OW⟩
        | exact ⟨_, A2, c2, R2, rfl, rfl, Lib.hid ⟨Live.set HG.out (M2.below ((Below.refl _ _).alloc (Nat.le_refl _) _)) C2, E2⟩, OW⟩
        | exact ⟨_, A2, c2, R2, rfl, rfl, Lib.hid ⟨Live.new M2 C2, E2⟩, OW⟩
  case rest =>
  obtain ⟨g3, A3, c3, R3, rfl, rfl, LV, OW⟩ := hcut
  generalize wc = w3 at *
  have L3 := Lib.hid LV.out.1
  have E3 := Lib.hid LV.out.2
  have r3 : R3.length = 3 := cts_length E3.out
  have B3 := Lib.hid (B2.out.trans (Below.mono OW.out B2.out.size))
  have k3 := L3.out.cell
  have R3L := Lib.hid r3
  clear LV OW K2 L2 E2 B2 r3
  go_wp2_with fail
  refine (hdrop L3.out.ms [98] _ _ E3.out hd4).mono ?_
  rintro e u4 h4
  obtain ⟨A4, c4, R4, rfl, M4, E4, C4, b4⟩ := mapE_ok h4
  have L4 := Lib.hid (Live.new M4 C4)
  have E4 := Lib.hid E4
  have b4' := b4.alloc b4.size (.cells #[.slice A4 R4.length c4] 24)
  have L3 := Lib.hid (L3.out.below b4')
  have B4 := Lib.hid (B3.out.trans (Below.mono b4' B3.out.size))
  clear h4 M4 C4 b4 B3 k3 b4'
  go_upto_region 5 with fail
  generalize u4.alloc (.cells #[.slice A4 R4.length c4] 24) = w4 at *
  generalize u4.heap.size = g4 at *
  have k3 := L3.out.cell
  have k4 := L4.out.cell
  go_wp2_with fail
  refine (diff_any A3 A4 R3.length c3 R4.length c4 R3 R4 w4 rfl rfl (by have := R3L.out; omega) (by rw [cts_length E4.out]; decide) L3.out.cap L4.out.cap L3.out.ms L4.out.ms).mono ?_
  rintro e w5 h5
  rw [E3.out, E4.out, hd5] at h5
  obtain ⟨A5, c5, R5, rfl, M5, D5, E5, C5, b5⟩ := h5
  have L3 := Lib.hid (L3.out.below b5)
  have L4 := Lib.hid (L4.out.below b5)
  have B5 := Lib.hid (B4.out.trans (Below.mono b5 B4.out.size))
  have M5 := Lib.hid M5
  have E5 := Lib.hid E5
  have k3 := L3.out.cell
  clear D5 C5 b5 B4 k4
  have M5 := Lib.hid (fun (u : World) (hu : Below w5.heap.size w5 u) => M5.out.below hu)
  obtain ⟨x6, hx6⟩ : ∃ x6, x6 = w5.alloc (.cells #[.string (mkB [97]), .string (mkB [99])] 9) := ⟨_, rfl⟩
  have bx6 : Below w5.heap.size w5 x6 := by rw [hx6]; exact (Below.refl _ _).alloc (Nat.le_refl _) _
  have ix6 : Rd x6 (some ⟨w5.heap.size, 0, none⟩) (strsC [[97], [99]]) := by rw [hx6]; exact Rd.of_row (heap_alloc_new w5 _) (List.prefix_refl _)
  go_wp2_with fail
  rw [← hx6]
  clear hx6
  refine (hput (L3.out.below bx6).ms ⟨hW, .slice (some ⟨w5.heap.size, 0, none⟩) 2 2, .slice none 0 0⟩ ⟨⟨_, _, rfl, ix6⟩, ⟨none, 0, rfl, Rd.nil_ _ _⟩⟩ hWsz _ _ E3.out hd6 (by decide)).mono ?_
  rintro e u6 h6
  obtain ⟨A6, c6, R6, rfl, M6, E6, C6, b6⟩ := mapE_ok h6
  have L6 := Lib.hid (Live.new M6 C6)
  have E6 := Lib.hid E6
  have b6' := (bx6.trans (Below.mono b6 bx6.size)).alloc (Nat.le_trans bx6.size b6.size) (.cells #[.slice A6 R6.length c6] 24)
  have L3 := Lib.hid (L3.out.below b6')
  have L4 := Lib.hid (L4.out.below b6')
  have B6 := Lib.hid (B5.out.trans (Below.mono b6' B5.out.size))
  have b6w := Lib.hid b6'
  clear h6 M6 C6 b6 B5 k3 b6' bx6 ix6
  have M5 := Lib.hid (fun (u : World) (hu : Below (u6.alloc (.cells #[.slice A6 R6.length c6] 24)).heap.size (u6.alloc (.cells #[.slice A6 R6.length c6] 24)) u) => M5.out u (b6w.out.trans (Below.mono hu b6w.out.size)))
  clear b6w
  go_upto_region 7 with fail
  generalize u6.alloc (.cells #[.slice A6 R6.length c6] 24) = w6 at *
  generalize u6.heap.size = g6 at *
  have k3 := L3.out.cell
  obtain ⟨x7, hx7⟩ : ∃ x7, x7 = w6.alloc (.cells #[.string (mkB [97]), .string (mkB [120])] 9) := ⟨_, rfl⟩
  have bx7 : Below w6.heap.size w6 x7 := by rw [hx7]; exact (Below.refl _ _).alloc (Nat.le_refl _) _
  have ix7 : Rd x7 (some ⟨w6.heap.size, 0, none⟩) (strsC [[97], [120]]) := by rw [hx7]; exact Rd.of_row (heap_alloc_new w6 _) (List.prefix_refl _)
  go_wp2_with fail
  rw [← hx7]
  clear hx7
  refine (hput (L3.out.below bx7).ms ⟨hX, .slice (some ⟨w6.heap.size, 0, none⟩) 2 2, .slice none 0 0⟩ ⟨⟨_, _, rfl, ix7⟩, ⟨none, 0, rfl, Rd.nil_ _ _⟩⟩ hXsz _ _ E3.out hd7 (by decide)).mono ?_
  rintro e u7 h7
  obtain ⟨A7, c7, R7, rfl, M7, E7, C7, b7⟩ := mapE_ok h7
  have L7 := Lib.hid (Live.new M7 C7)
  have E7 := Lib.hid E7
  have b7' := (bx7.trans (Below.mono b7 bx7.size)).alloc (Nat.le_trans bx7.size b7.size) (.cells #[.slice A7 R7.length c7] 24)
  have L3 := Lib.hid (L3.out.below b7')
  have L4 := Lib.hid (L4.out.below b7')
  have L6 := Lib.hid (L6.out.below b7')
  have B7 := Lib.hid (B6.out.trans (Below.mono b7' B6.out.size))
  have b7w := Lib.hid b7'
  clear h7 M7 C7 b7 B6 k3 b7' bx7 ix7
  have M5 := Lib.hid (fun (u : World) (hu : Below (u7.alloc (.cells #[.slice A7 R7.length c7] 24)).heap.size (u7.alloc (.cells #[.slice A7 R7.length c7] 24)) u) => M5.out u (b7w.out.trans (Below.mono hu b7w.out.size)))
  clear b7w
  go_upto_region 8 with fail
  generalize u7.alloc (.cells #[.slice A7 R7.length c7] 24) = w7 at *
  generalize u7.heap.size = g7 at *
  have k6 := L6.out.cell
  go_wp2_with fail
  refine (points_any A6 R6.length c6 R6 [119] w7 rfl L6.out.ms).mono ?_
  rintro e w8 h8
  rw [E6.out, hd8] at h8
  obtain ⟨A8, c8, rfl, P8, b8⟩ := h8
  have P8 := Lib.hid P8
  have L3 := Lib.hid (L3.out.below b8)
  have L4 := Lib.hid (L4.out.below b8)
  have L6 := Lib.hid (L6.out.below b8)
  have L7 := Lib.hid (L7.out.below b8)
  have M5 := Lib.hid (fun (u : World) (hu : Below w8.heap.size w8 u) => M5.out u (b8.trans (Below.mono hu b8.size)))
  have B8 := Lib.hid (B7.out.trans (Below.mono b8 B7.out.size))
  clear b8 B7 k6
  have k7 := L7.out.cell
  go_wp2_with fail
  refine (points_any A7 R7.length c7 R7 [119] w8 rfl L7.out.ms).mono ?_
  rintro e w9 h9
  rw [E7.out, hd9] at h9
  obtain ⟨A9, c9, rfl, -, b9⟩ := h9
  have P8 := Lib.hid (P8.out.below b9)
  have L3 := Lib.hid (L3.out.below b9)
  have L4 := Lib.hid (L4.out.below b9)
  have L6 := Lib.hid (L6.out.below b9)
  have M5 := Lib.hid (M5.out w9 b9)
  have B9 := Lib.hid (B8.out.trans (Below.mono b9 B8.out.size))
  clear b9 B8 k7 L7 E7
  have r5 : R5.length = 1 := by have := congrArg List.length E5.out; simpa using this
  have k3 : w9.cell? ⟨g3, 0, none⟩ = some (.slice A3 3 c3) := by have := L3.out.cell; rwa [R3L.out] at this
  rw [r5]
  clear r5
  go_upto_region 12 with fail
  have NX : Hid (∀ u : World, Calls Tryz.prog 46 #[.string (mkB [98]), .int .i64 5, .int .i64 6] u fun e w' => e = .returned (.agg #[.string (mkB [98]), .int .i64 1, .int .i64 5, .int .i64 6, .slice none 0 0, .slice none 0 0]) ∧ Below u.heap.size u w') := Lib.hid (fun u => node_any [98] 5 6 u)
  have K4 : ∀ u, OldB w9 u → u.cell? ⟨g4, 0, none⟩ = some (.slice A4 R4.length c4) := fun u hu => (L4.out.below hu).cell
  go_cut [18, 19] (fun s3 s4 wx => ∃ (p : Nat) (A : Option Addr) (c : Nat) (R : List RO), s3 = .pointer (some ⟨p, 0, none⟩) ∧ s4 = .int .i64 0 ∧ Hid (Live wx p A c R ∧ cts R = [hA, hB, hC]) ∧ Hid (OldB w9 wx))
  case first =>
    (refine wp_region_noPanic ?_; refine wp_region_held_drew (S := (OldB w9)) (by kernel_rfl) ?_ (fun hHeld => ?_); exact Below.drew (Below.refl _ _))
    (refine tkW 0 ?_; try simp only [gmS])
    (refine wpAnyH_ready (rs := [1, 8]) (by kernel_rfl) (by simp) ?_; refine AllReadyH.cons (o := _) rfl (fun K hK => ?_) (AllReadyH.cons (o := _) rfl (fun K hK => ?_) AllReadyH.nil))
    · go_simp
      refine (NX.out _).mono ?_
      rintro e v1 ⟨rfl, d1⟩
      (refine hK.out _ _ (OldB.then hHeld d1) (fun hHeld2 => ?_); clear hK K hHeld; have hHeld := hHeld2; clear hHeld2; try simp only [gmS])
      (refine tkW 2 ?_; try simp only [gmS])
      (refine wpAnyH_ready (rs := [3, 8]) (by kernel_rfl) (by simp) ?_; refine AllReadyH.cons (o := _) rfl (fun K hK => ?_) (AllReadyH.cons (o := _) rfl (fun K hK => ?_) AllReadyH.nil))
      · go_simp
        (refine hK.out _ _ (OldB.alloc hHeld _) (fun hHeld2 => ?_); clear hK K hHeld; have hHeld := hHeld2; clear hHeld2; try simp only [gmS])
        have RB := Lib.hid (Rd.of_row (xs := dvsC [dv1]) (box_new hHeld) (List.prefix_refl _))
        try simp only [World.size_alloc, World.size_drew] at RB
        (refine wpAnyH_ready (rs := [4, 8]) (by kernel_rfl) (by simp) ?_; refine AllReadyH.cons (o := _) rfl (fun K hK => ?_) (AllReadyH.cons (o := _) rfl (fun K hK => ?_) AllReadyH.nil))
        · go_simp
          refine (hpatch (L4.out.below hHeld).ms (L4.out.cap) (by first | exact RB.out | exact RB.out.alloc _) E4.out).mono ?_
          rintro e v2 h3
          obtain ⟨A2, c2, R2, rfl, M2, E2, C2, d2⟩ := mapE_ok h3
          clear h3 RB
          (refine hK.out _ _ (OldB.then hHeld d2) (fun hHeld2 => ?_); clear hK K hHeld; have hHeld := hHeld2; clear hHeld2; try simp only [gmS])
          (refine tkW 5 ?_; try simp only [gmS])
          (refine tkW 6 ?_; try simp only [gmS])
          (refine tkW 7 ?_; try simp only [gmS])
          have hp := Below.size (show Below _ _ _ from hHeld)
          have HH0 := Lib.hid hHeld
          (refine rdW 8 (fun K hK => ?_); go_simp)
          (refine hK.out _ _ (OldB.alloc hHeld _) (fun hHeld2 => ?_); clear hK K hHeld; have hHeld := hHeld2; clear hHeld2; try simp only [gmS])
          first | have HG := Lib.hid (box_new hHeld) | have HG := Lib.hid (box_newD hHeld)
          try simp only [World.size_alloc, World.size_drew] at hp
          try simp only [World.size_alloc, World.size_drew] at HG
          have k0 := cell_of_row _ _ 0 _ _ _ HG.out
          have f0 := free_blk HG.out 0
          simp at k0 f0
          (refine rdW 9 (fun K hK => ?_); go_simp)
          (refine hK.out _ _ (OldB.alloc HH0.out _) (fun hHeld2 => ?_); clear hK K hHeld; have hHeld := hHeld2; clear hHeld2; try simp only [gmS])
          (refine tkW 10 ?_; try simp only [gmS])
          have OW := Lib.hid hHeld
          (refine wpAnyH_done (by kernel_rfl) ?_ _; refine NoPanic.normal ?_)
          go_wp2_with fail
          go_meet
          first
            | exact ⟨_, A2, c2, R2, rfl, rfl, Lib.hid ⟨Live.set HG.out M2 C2, E2⟩, OW⟩
            | exact ⟨_, A2, c2, R2, rfl, rfl, Lib.hid ⟨Live.set HG.out (M2.below ((Below.refl _ _).alloc (Nat.le_refl _) _)) C2, E2⟩, OW⟩
            | exact ⟨_, A2, c2, R2, rfl, rfl, Lib.hid ⟨Live.new M2 C2, E2⟩, OW⟩
        · go_simp
          have hp := Below.size (show Below _ _ _ from hHeld)
          have HH0 := Lib.hid hHeld
          (refine hK.out _ _ (OldB.alloc hHeld _) (fun hHeld2 => ?_); clear hK K hHeld; have hHeld := hHeld2; clear hHeld2; try simp only [gmS])
          first | have HG := Lib.hid (box_new hHeld) | have HG := Lib.hid (box_newD hHeld)
          try simp only [World.size_alloc, World.size_drew] at hp
          try simp only [World.size_alloc, World.size_drew] at HG
          (refine rdW 4 (fun K hK => ?_); go_simp)
          refine (hpatch (L4.out.below hHeld).ms (L4.out.cap) (by first | exact RB.out | exact RB.out.alloc _) E4.out).mono ?_
          rintro e v2 h3
          obtain ⟨A2, c2, R2, rfl, M2, E2, C2, d2⟩ := mapE_ok h3
          clear h3 RB
          (refine hK.out _ _ (OldB.then hHeld d2) (fun hHeld2 => ?_); clear hK K hHeld; have hHeld := hHeld2; clear hHeld2; try simp only [gmS])
          have HG := Lib.hid ((d2.block _ (lt_of_block HG.out)).trans HG.out)
          (refine tkW 5 ?_; try simp only [gmS])
          (refine tkW 6 ?_; try simp only [gmS])
          (refine tkW 7 ?_; try simp only [gmS])
          have k0 := cell_of_row _ _ 0 _ _ _ HG.out
          have f0 := free_blk HG.out 0
          simp at k0 f0
          (refine rdW 9 (fun K hK => ?_); go_simp)
          (refine hK.out _ _ (OldB.set hHeld hp 0 _) (fun hHeld2 => ?_); clear hK K hHeld; have hHeld := hHeld2; clear hHeld2; try simp only [gmS])
          (refine tkW 10 ?_; try simp only [gmS])
          have OW := Lib.hid hHeld
          (refine wpAnyH_done (by kernel_rfl) ?_ _; refine NoPanic.normal ?_)
          go_wp2_with fail
          go_meet
          first
            | exact ⟨_, A2, c2, R2, rfl, rfl, Lib.hid ⟨Live.set HG.out M2 C2, E2⟩, OW⟩
            | exact ⟨_, A2, c2, R2, rfl, rfl, Lib.hid ⟨Live.set HG.out (M2.below ((Below.refl _ _).alloc (Nat.le_refl _) _)) C2, E2⟩, OW⟩
            | exact ⟨_, A2, c2, R2, rfl, rfl, Lib.hid ⟨Live.new M2 C2, E2⟩, OW⟩
      · go_simp
        have hp := Below.size (show Below _ _ _ from hHeld)
        have HH0 := Lib.hid hHeld
        (refine hK.out _ _ (OldB.alloc hHeld _) (fun hHeld2 => ?_); clear hK K hHeld; have hHeld := hHeld2; clear hHeld2; try simp only [gmS])
        first | have HG := Lib.hid (box_new hHeld) | have HG := Lib.hid (box_newD hHeld)
        try simp only [World.size_alloc, World.size_drew] at hp
        try simp only [World.size_alloc, World.size_drew] at HG
        (refine rdW 3 (fun K hK => ?_); go_simp)
        (refine hK.out _ _ (OldB.alloc hHeld _) (fun hHeld2 => ?_); clear hK K hHeld; have hHeld := hHeld2; clear hHeld2; try simp only [gmS])
        have RB := Lib.hid (Rd.of_row (xs := dvsC [dv1]) (box_new hHeld) (List.prefix_refl _))
        try simp only [World.size_alloc, World.size_drew] at RB
        have HG := Lib.hid (box_keep hHeld HG.out)
        (refine rdW 4 (fun K hK => ?_); go_simp)
        refine (hpatch (L4.out.below hHeld).ms (L4.out.cap) (by first | exact RB.out | exact RB.out.alloc _) E4.out).mono ?_
        rintro e v2 h3
        obtain ⟨A2, c2, R2, rfl, M2, E2, C2, d2⟩ := mapE_ok h3
        clear h3 RB
        (refine hK.out _ _ (OldB.then hHeld d2) (fun hHeld2 => ?_); clear hK K hHeld; have hHeld := hHeld2; clear hHeld2; try simp only [gmS])
        have HG := Lib.hid ((d2.block _ (lt_of_block HG.out)).trans HG.out)
        (refine tkW 5 ?_; try simp only [gmS])
        (refine tkW 6 ?_; try simp only [gmS])
        (refine tkW 7 ?_; try simp only [gmS])
        have k0 := cell_of_row _ _ 0 _ _ _ HG.out
        have f0 := free_blk HG.out 0
        simp at k0 f0
        (refine rdW 9 (fun K hK => ?_); go_simp)
        (refine hK.out _ _ (OldB.set hHeld hp 0 _) (fun hHeld2 => ?_); clear hK K hHeld; have hHeld := hHeld2; clear hHeld2; try simp only [gmS])
        (refine tkW 10 ?_; try simp only [gmS])
        have OW := Lib.hid hHeld
        (refine wpAnyH_done (by kernel_rfl) ?_ _; refine NoPanic.normal ?_)
        go_wp2_with fail
        go_meet
        first
          | exact ⟨_, A2, c2, R2, rfl, rfl, Lib.hid ⟨Live.set HG.out M2 C2, E2⟩, OW⟩
          | exact ⟨_, A2, c2, R2, rfl, rfl, Lib.hid ⟨Live.set HG.out (M2.below ((Below.refl _ _).alloc (Nat.le_refl _) _)) C2, E2⟩, OW⟩
          | exact ⟨_, A2, c2, R2, rfl, rfl, Lib.hid ⟨Live.new M2 C2, E2⟩, OW⟩
    · go_simp
      have hp := Below.size (show Below _ _ _ from hHeld)
      have HH0 := Lib.hid hHeld
      (refine hK.out _ _ (OldB.alloc hHeld _) (fun hHeld2 => ?_); clear hK K hHeld; have hHeld := hHeld2; clear hHeld2; try simp only [gmS])
      first | have HG := Lib.hid (box_new hHeld) | have HG := Lib.hid (box_newD hHeld)
      try simp only [World.size_alloc, World.size_drew] at hp
      try simp only [World.size_alloc, World.size_drew] at HG
      (refine rdW 1 (fun K hK => ?_); go_simp)
      refine (NX.out _).mono ?_
      rintro e v1 ⟨rfl, d1⟩
      (refine hK.out _ _ (OldB.then hHeld d1) (fun hHeld2 => ?_); clear hK K hHeld; have hHeld := hHeld2; clear hHeld2; try simp only [gmS])
      have HG := Lib.hid ((d1.block _ (lt_of_block HG.out)).trans HG.out)
      (refine tkW 2 ?_; try simp only [gmS])
      (refine rdW 3 (fun K hK => ?_); go_simp)
      (refine hK.out _ _ (OldB.alloc hHeld _) (fun hHeld2 => ?_); clear hK K hHeld; have hHeld := hHeld2; clear hHeld2; try simp only [gmS])
      have RB := Lib.hid (Rd.of_row (xs := dvsC [dv1]) (box_new hHeld) (List.prefix_refl _))
      try simp only [World.size_alloc, World.size_drew] at RB
      have HG := Lib.hid (box_keep hHeld HG.out)
      (refine rdW 4 (fun K hK => ?_); go_simp)
      refine (hpatch (L4.out.below hHeld).ms (L4.out.cap) (by first | exact RB.out | exact RB.out.alloc _) E4.out).mono ?_
      rintro e v2 h3
      obtain ⟨A2, c2, R2, rfl, M2, E2, C2, d2⟩ := mapE_ok h3
      clear h3 RB
      (refine hK.out _ _ (OldB.then hHeld d2) (fun hHeld2 => ?_); clear hK K hHeld; have hHeld := hHeld2; clear hHeld2; try simp only [gmS])
      have HG := Lib.hid ((d2.block _ (lt_of_block HG.out)).trans HG.out)
      (refine tkW 5 ?_; try simp only [gmS])
      (refine tkW 6 ?_; try simp only [gmS])
      (refine tkW 7 ?_; try simp only [gmS])
      have k0 := cell_of_row _ _ 0 _ _ _ HG.out
      have f0 := free_blk HG.out 0
      simp at k0 f0
      (refine rdW 9 (fun K hK => ?_); go_simp)
      (refine hK.out _ _ (OldB.set hHeld hp 0 _) (fun hHeld2 => ?_); clear hK K hHeld; have hHeld := hHeld2; clear hHeld2; try simp only [gmS])
      (refine tkW 10 ?_; try simp only [gmS])
      have OW := Lib.hid hHeld
      (refine wpAnyH_done (by kernel_rfl) ?_ _; refine NoPanic.normal ?_)
      go_wp2_with fail
      go_meet
      first
        | exact ⟨_, A2, c2, R2, rfl, rfl, Lib.hid ⟨Live.set HG.out M2 C2, E2⟩, OW⟩
        | exact ⟨_, A2, c2, R2, rfl, rfl, Lib.hid ⟨Live.set HG.out (M2.below ((Below.refl _ _).alloc (Nat.le_refl _) _)) C2, E2⟩, OW⟩
        | exact ⟨_, A2, c2, R2, rfl, rfl, Lib.hid ⟨Live.new M2 C2, E2⟩, OW⟩
  case rest =>
  obtain ⟨g10, A10, c10, R10, rfl, rfl, LV, OW⟩ := hcut
  generalize wc = w10 at *
  have L10 := Lib.hid LV.out.1
  have E10 := Lib.hid LV.out.2
  have L3 := Lib.hid (L3.out.below OW.out)
  have L6 := Lib.hid (L6.out.below OW.out)
  have P8 := Lib.hid (P8.out.below OW.out)
  have M5 := Lib.hid (M5.out.below OW.out)
  have B10 := Lib.hid (B9.out.trans (Below.mono OW.out B9.out.size))
  clear LV OW K4 k3 B9 L4 E4 NX
  have k3 : w10.cell? ⟨g3, 0, none⟩ = some (.slice A3 3 c3) := by have := L3.out.cell; rwa [R3L.out] at this
  have k6 := L6.out.cell
  have k10 := L10.out.cell
  obtain ⟨d5, e5⟩ : ∃ d, R5 = [d] := by
    match R5, congrArg List.length E5.out with
    | [d], _ => exact ⟨d, rfl⟩
  subst e5
  have i5 : d5.d = ⟨[98], true, false, hB, At.zeroOb⟩ := by have := E5.out; simpa using this
  obtain ⟨b5, o5, rfl, -, h5c⟩ := dvs_at (k := 0) M5.out (by simp)
  have j0 := h5c 0 (.string (mkB [98])) (by have : d5.id = [98] := congrArg At.Dl.id i5; simp [dvC, this])
  have j1 := h5c 1 (.bool true) (by have : d5.was = true := congrArg At.Dl.was i5; simp [dvC, this])
  have j2 := h5c 2 (.bool false) (by have : d5.is = false := congrArg At.Dl.is i5; simp [dvC, this])
  simp only [Nat.zero_mul, Nat.add_zero] at j0 j1 j2
  obtain ⟨b3, o3, e3', -, h30, -⟩ := ros_at (k := 1) L3.out.ms.rd (by rw [R3L.out]; decide)
  subst e3'
  have i3 : (R3[1]'(by rw [R3L.out]; decide)).c.id = [98] := by
    have := congrArg (fun l : List At.Ob => l[1]?.map (·.id)) E3.out
    simp [cts, R3L.out] at this
    exact this
  rw [i3] at h30
  have HOLD := Lib.hid (fun (u : World) (hu : Below w10.heap.size w10 u) => (⟨L3.out.below hu, L6.out.below hu, L10.out.below hu, P8.out.below hu⟩ : Live u g3 (some ⟨b3, o3, none⟩) c3 R3 ∧ Live u g6 A6 c6 R6 ∧ Live u g10 A10 c10 R10 ∧ Rd u A8 (ptsC [(1, 2), (3, 4)])))
  have t1 := mkB_tl [98]
  clear M5 h5c i5 i3 L3 L6 L10 P8
  have q1 : decide (([(1, 2), (3, 4)] : List Pt2) = [(1, 2), (3, 4)]) = true := by decide
  have BA := Lib.hid (show Below w10.heap.size w10 (w10.alloc (.cells #[.int .i64 1, .int .i64 2, .int .i64 3, .int .i64 4] 39)) from (Below.refl _ _).alloc (Nat.le_refl _) _)
  have PS := Lib.hid (samePts_any A8 (some ⟨w10.heap.size, 0, none⟩) c8 2 [(1, 2), (3, 4)] [(1, 2), (3, 4)] 2 2 _ rfl rfl (by decide) (by decide) (HOLD.out _ BA.out).2.2.2 (Rd.of_row (heap_alloc_new w10 (.cells #[.int .i64 1, .int .i64 2, .int .i64 3, .int .i64 4] 39)) (List.prefix_refl _)))
  rw [q1] at PS
  clear q1
  go_wp2_with fail
  refine PS.out.mono ?_
  rintro e w11 ⟨rfl, b11⟩
  have B11 := Lib.hid (BA.out.trans (Below.mono b11 BA.out.size))
  clear PS b11 BA k3 k6 k10 j0 j1 j2 h30 t1
  obtain ⟨L3', L6', L10', -⟩ := HOLD.out w11 B11.out
  have k3 := L3'.cell
  have k6 := L6'.cell
  have k10 := L10'.cell
  have AS := Lib.hid (asame_any A10 (some ⟨b3, o3, none⟩) c10 c3 R10 R3 R10.length R3.length w11 rfl rfl L10'.ms L3'.ms)
  rw [E10.out, E3.out, show At.sameL [hA, hB, hC] [hA, hB, hC] = true from At.sameL_iff.2 rfl] at AS
  clear L3' L6' L10'
  go_wp2_with fail
  refine AS.out.mono ?_
  rintro e w12 ⟨rfl, b12⟩
  have B12 := Lib.hid (B11.out.trans (Below.mono b12 B11.out.size))
  clear b12 B11 AS k3 k6 k10
  obtain ⟨-, L6', -, -⟩ := HOLD.out w12 B12.out
  have k6 := L6'.cell
  have RF := Lib.hid (refers_any A6 R6.length c6 R6 [99] w12 rfl L6'.ms)
  rw [E6.out, hd11] at RF
  clear L6'
  go_wp2_with fail
  refine RF.out.mono ?_
  rintro e w13 ⟨A13, c13, rfl, r13, b13⟩
  have B13 := Lib.hid (B12.out.trans (Below.mono b13 B12.out.size))
  have BC : Below w13.heap.size w13 (w13.alloc (.cells #[.string (mkB [119])] 9)) := (Below.refl _ _).alloc (Nat.le_refl _) _
  have RS := Lib.hid (rsames_any A13 (some ⟨w13.heap.size, 0, none⟩) c13 1 [[119]] [[119]] 1 1 _ rfl rfl (by decide) (by decide) (r13.below BC) (Rd.of_row (heap_alloc_new w13 (.cells #[.string (mkB [119])] 9)) (List.prefix_refl _)))
  have BC := Lib.hid BC
  have q2 : decide (([[119]] : List Tx) = [[119]]) = true := by decide
  rw [q2] at RS
  clear b13 B12 k6 r13 RF q2
  go_wp2_with fail
  refine RS.out.mono ?_
  rintro e w14 ⟨rfl, b14⟩
  have B14 := Lib.hid (B13.out.trans (Below.mono (BC.out.trans (Below.mono b14 BC.out.size)) B13.out.size))
  clear b14 B13 BC RS
  obtain ⟨-, L6', -, -⟩ := HOLD.out w14 B14.out
  have k6 := L6'.cell
  have DG := Lib.hid (adigest_any A6 R6.length c6 R6 w14 rfl (by rw [cts_length E6.out]; decide) L6'.ms (HT.out.keep (B10.out.trans (Below.mono B14.out B10.out.size))))
  rw [E6.out] at DG
  have DI := Lib.hid (fun (u : World) => is_any (mkB (digestM [hA, hB, hC, hW])) u (by show (digestM [hA, hB, hC, hW]).length ≤ _; exact Nat.le_trans (digestM_len _) (by decide)))
  rw [show (mkB (digestM [hA, hB, hC, hW])).data.toList = digestM [hA, hB, hC, hW] from rfl, hd13] at DI
  clear L6'
  go_wp2_with fail
  refine DG.out.mono ?_
  rintro e w15 ⟨rfl, b15⟩
  have B15 := Lib.hid (B14.out.trans (Below.mono b15 B14.out.size))
  clear b15 B14 DG k6
  go_wp2_with fail
  refine (DI.out _).mono ?_
  rintro e w16 ⟨rfl, b16⟩
  have B16 := Lib.hid (B10.out.trans (Below.mono (B15.out.trans (Below.mono b16 B15.out.size)) B10.out.size))
  clear b16 B15 DI
  go_wp2_with fail
  go_ret
  exact ⟨rfl, B16.out⟩
end Go.Proofs.YtlejeelmlclnkaaGreatDoor
