/- WALK: the statement AtlasDigests (printed by gen_dj.py). -/
import Derived.Test.YtlejeelmlclnkaaGreatDoorDB
import Derived.Test.YtlejeelmlclnkaaGreatDoorEA
set_option linter.unusedSimpArgs false
set_option linter.unusedVariables false
namespace Go.Proofs.YtlejeelmlclnkaaGreatDoor
open Go.RowKit

theorem few_len3 {l : List RO} (h : fewM (cts l) = true) : l.length ≤ 30 := by
  unfold fewM at h
  rw [Bool.and_eq_true, decide_eq_true_eq, cts_len] at h
  exact h.1
theorem few_two3 {l m : List RO} {A B : Option Addr} {c d : Nat} : allFew [⟨A, c, l⟩, ⟨B, d, m⟩] = (fewM (cts l) && fewM (cts m)) := by simp [allFew]
theorem few_sml {l : List RO} (h : fewM (cts l) = true) : ∀ r ∈ l, Sml r.c := fun r hr => by
  unfold fewM at h
  rw [Bool.and_eq_true, List.all_eq_true] at h
  have := h.2 r.c (List.mem_map.2 ⟨r, hr, rfl⟩)
  unfold fewO at this
  simp only [Bool.and_eq_true, decide_eq_true_eq] at this
  exact ⟨by have := this.1.1.1.2; omega⟩
theorem joined_lenT {L : List Tx} (h : L.length ≤ 300) (hs : ∀ s ∈ L, s.length ≤ 300) : (Dg.joined L).length ≤ 93000 := by
  have := joined_size (l := L.map mkB) (fun s hs' => by
    obtain ⟨t, ht, rfl⟩ := List.mem_map.1 hs'
    rw [mkB_len]; exact hs t ht) L.length (by rw [List.length_map]; exact Nat.le_refl _)
  rw [List.take_of_length_le (by rw [List.length_map]; exact Nat.le_refl _), bys_mkB] at this
  omega
theorem isT_any (t : Tx) (w : World) (hs : t.length ≤ 9223372036854775807) :
    Calls Tryz.prog 20 #[.string (mkB t)] w fun e w' => e = .returned (.bool (Dg.isD t)) ∧ Below w.heap.size w w' := by
  have := is_any (mkB t) w (by rw [mkB_len]; exact hs)
  rwa [mkB_list] at this
theorem sumTx_any (t : Tx) (w : World) (hs : t.length ≤ 100000) :
    Calls Tryz.prog 23 #[.string (mkB t)] w fun e w' => e = .returned (.string (mkB (Dg.sumL t))) ∧ Below w.heap.size w w' := by
  have := sum_any (mkB t) w (by rw [mkB_len]; omega)
  rwa [mkB_list] at this
theorem digests_szT (l : List RO) (h : l.length ≤ 30) : ((cts l).map digestF).length ≤ 300 ∧ ∀ s ∈ (cts l).map digestF, s.length ≤ 300 := by
  refine ⟨by rw [List.length_map, cts_len]; omega, fun s hs => ?_⟩
  obtain ⟨o, -, rfl⟩ := List.mem_map.1 hs
  have := digestF_len o; omega
/-- one side's object in a loop over both maps: it is read, its fields are joined -/
theorem obj_at {w : World} {A : Option Addr} {l : List RO} (h : Ms w A l) {k : Nat} (hk : k < l.length) : ∃ (b off : Nat) (A1 A2 : Option Addr) (q1 q2 : Nat), A = some ⟨b, off, none⟩ ∧ l[k].rv = .slice A1 l[k].c.refs.length q1 ∧ l[k].tv = .slice A2 l[k].c.tags.length q2 ∧ ∀ f u, ([.string (mkB l[k].c.id), .int .i64 l[k].c.kind, .int .i64 l[k].c.x, .int .i64 l[k].c.y, .slice A1 l[k].c.refs.length q1, .slice A2 l[k].c.tags.length q2] : List Value)[f]? = some u → ∀ v, OldB w v → v.cell? ⟨b, off + k * 6 + f, none⟩ = some u := by
  obtain ⟨b, off, e, hb, c0, c1, c2, c3, c4, c5⟩ := ros_at h.rd hk
  have HO := h.ob l[k] (List.getElem_mem hk)
  obtain ⟨A1, q1, v1, -⟩ := HO.rs
  obtain ⟨A2, q2, v2, -⟩ := HO.ts
  rw [v1] at c4
  rw [v2] at c5
  refine ⟨b, off, A1, A2, q1, q2, e, v1, v2, fun f u hu v hv => ?_⟩
  rw [Below.cell (p := ⟨b, off + k * 6 + f, none⟩) hv hb]
  match f, hu with
  | 0, hu => simp at hu; subst hu; exact c0
  | 1, hu => simp at hu; subst hu; exact c1
  | 2, hu => simp at hu; subst hu; exact c2
  | 3, hu => simp at hu; subst hu; exact c3
  | 4, hu => simp at hu; subst hu; exact c4
  | 5, hu => simp at hu; subst hu; exact c5
set_option maxHeartbeats 8000000 in
set_option maxRecDepth 100000 in
theorem walk_AtlasDigests (A : Option Addr) (c : Nat) (l : List RO) (B : Option Addr) (d : Nat) (l' : List RO) (w : World) (hc : l.length ≤ c) (hcm : c ≤ 9223372036854775807) (h : Mw w A l) (hd : l'.length ≤ d) (hdm : d ≤ 9223372036854775807) (h2 : Mw w B l') (ht : Tab w) :
    Calls Tryz.prog 5 #[.agg #[.slice A l.length c], .agg #[.slice B l'.length d]] w fun e w' => e = .returned (.bool true) ∧ Below w.heap.size w w' := by
  have HM := Lib.hid h
  have HM2 := Lib.hid h2
  have HT := Lib.hid ht
  obtain ⟨n, hn⟩ : ∃ n, n = l.length := ⟨_, rfl⟩
  obtain ⟨m, hm⟩ : ∃ m, m = l'.length := ⟨_, rfl⟩
  have HN := Lib.hid hn
  have HN2 := Lib.hid hm
  rw [← hn] at hc ⊢
  rw [← hm] at hd ⊢
  obtain ⟨w1, hw1⟩ : ∃ w1, w1 = (w.alloc (.cells #[.slice A n c] 24)).alloc (.cells #[.slice B m d] 24) := ⟨_, rfl⟩
  have X0 : w1.heap[w.heap.size]? = some (.cells #[.slice A n c] 24 (0, 0)) := by rw [hw1]; exact (alloc_old _ _ (by simp)).trans (heap_alloc_new w _)
  have X1 : w1.heap[w.heap.size + 1]? = some (.cells #[.slice B m d] 24 (0, 0)) := by rw [hw1]; exact alloc_new' _ _ _ (by simp)
  have BX : Below w.heap.size w w1 := by rw [hw1]; exact ((Below.refl _ _).alloc (Nat.le_refl _) _).alloc (by simp) _
  have z1 : w.heap.size + 1 < w1.heap.size := by rw [hw1]; simp
  have ENV : Hid (∀ u, Below w1.heap.size w1 u → u.cell? ⟨w.heap.size, 0, none⟩ = some (.slice A n c) ∧ u.cell? ⟨w.heap.size + 1, 0, none⟩ = some (.slice B m d) ∧ Mw u A l ∧ Mw u B l' ∧ Below w.heap.size w u) := Lib.hid (fun u hu => ⟨by have := cell_of_row u w.heap.size 0 _ _ _ ((hu.block _ (by omega)).trans X0); simpa using this, by have := cell_of_row u (w.heap.size + 1) 0 _ _ _ ((hu.block _ z1).trans X1); simpa using this, HM.out.below (BX.trans (Below.mono hu BX.size)), HM2.out.below (BX.trans (Below.mono hu BX.size)), BX.trans (Below.mono hu BX.size)⟩)
  have HD := Lib.hid (head_any w1 (HT.out.keep BX))
  clear h h2 ht hn hm X0 X1
  go_enter Tryz.func5, Tryz.ntmps5
  go_wp2_with fail
  rw [← hw1]
  clear hw1 BX
  refine HD.out.mono ?_
  rintro e u1 ⟨rfl, b1⟩
  obtain ⟨k0, k1, m1, m2, bw1⟩ := ENV.out u1 b1
  obtain ⟨x1, hx1'⟩ : ∃ x1, x1 = u1.alloc (.cells #[.slice A n c, .slice B m d] 24) := ⟨_, rfl⟩
  have bx1 : Below u1.heap.size u1 x1 := by rw [hx1']; exact (Below.refl _ _).alloc (Nat.le_refl _) _
  have FW := Lib.hid (few_any (some ⟨u1.heap.size, 0, none⟩) 2 2 [⟨A, c, l⟩, ⟨B, d, l'⟩] x1 rfl (by decide) (by rw [hx1', HN.out, HN2.out]; exact Rd.of_row (heap_alloc_new u1 _) (List.prefix_refl _)) (fun y hy => by
    rcases List.mem_cons.1 hy with rfl | hy
    · exact ⟨m1.below bx1, by show l.length ≤ _; rw [← HN.out]; omega⟩
    · rw [List.mem_singleton.1 hy]; exact ⟨m2.below bx1, by show l'.length ≤ _; rw [← HN2.out]; omega⟩))
  rw [few_two3] at FW
  have B1 := Lib.hid (b1.trans (Below.mono bx1 b1.size))
  clear m1 m2 bw1 b1 HD
  go_wp2_with fail
  rw [← hx1']
  clear hx1' bx1 k0 k1
  refine FW.out.mono ?_
  rintro e u2 ⟨rfl, b2⟩
  have B2 := Lib.hid (B1.out.trans (Below.mono b2 B1.out.size))
  obtain ⟨k0, k1, m1, m2, bw2⟩ := ENV.out u2 B2.out
  have BW2 := Lib.hid bw2
  have M1 := Lib.hid m1
  have M2 := Lib.hid m2
  clear b2 B1 FW bw2 m1 m2
  cases hf : (fewM (cts l) && fewM (cts l'))
  · go_wp2_with fail
    go_ret
    exact ⟨rfl, BW2.out⟩
  · rw [Bool.and_eq_true] at hf
    have MS := Lib.hid (M1.out.ms hf.1)
    have MT := Lib.hid (M2.out.ms hf.2)
    have S1 := Lib.hid (few_sml hf.1)
    have S2 := Lib.hid (few_sml hf.2)
    have hl : n ≤ 30 := by rw [HN.out]; exact few_len3 hf.1
    have hl2 : m ≤ 30 := by rw [HN2.out]; exact few_len3 hf.2
    have E2 : Hid (∀ u, OldB u2 u → u.cell? ⟨w.heap.size, 0, none⟩ = some (.slice A n c) ∧ u.cell? ⟨w.heap.size + 1, 0, none⟩ = some (.slice B m d) ∧ Ms u A l ∧ Ms u B l' ∧ Below w.heap.size w u) := Lib.hid (fun u hu => by
      obtain ⟨h1, h2, -, -, h3⟩ := ENV.out u (B2.out.trans (Below.mono hu B2.out.size))
      exact ⟨h1, h2, MS.out.below hu, MT.out.below hu, h3⟩)
    have K0 : ∀ u, OldB u2 u → u.cell? ⟨w.heap.size, 0, none⟩ = some (.slice A n c) := fun u hu => (E2.out u hu).1
    have K1 : ∀ u, OldB u2 u → u.cell? ⟨w.heap.size + 1, 0, none⟩ = some (.slice B m d) := fun u hu => (E2.out u hu).2.1
    have D1 : Hid (∀ u, OldB u2 u → Calls Tryz.prog 19 #[.agg #[.slice A n c]] u fun e w' => e = .returned (.string (mkB (digestM (cts l)))) ∧ Below u.heap.size u w') := Lib.hid (fun u hu => adigest_any A n c l u HN.out (by omega) (E2.out u hu).2.2.1 (HT.out.keep (E2.out u hu).2.2.2.2))
    have D2 : Hid (∀ u, OldB u2 u → Calls Tryz.prog 19 #[.agg #[.slice B m d]] u fun e w' => e = .returned (.string (mkB (digestM (cts l')))) ∧ Below u.heap.size u w') := Lib.hid (fun u hu => adigest_any B m d l' u HN2.out (by omega) (E2.out u hu).2.2.2.1 (HT.out.keep (E2.out u hu).2.2.2.2))
    have V1 : Hid (∀ u, OldB u2 u → Calls Tryz.prog 12 #[.agg #[.slice A n c]] u fun e w' => e = .returned (.bool (At.validM (cts l))) ∧ Below u.heap.size u w') := Lib.hid (fun u hu => avalid_any A c l n u HN.out (E2.out u hu).2.2.1)
    have V2 : Hid (∀ u, OldB u2 u → Calls Tryz.prog 12 #[.agg #[.slice B m d]] u fun e w' => e = .returned (.bool (At.validM (cts l'))) ∧ Below u.heap.size u w') := Lib.hid (fun u hu => avalid_any B d l' m u HN2.out (E2.out u hu).2.2.2.1)
    have SA : Hid (∀ u, OldB u2 u → Calls Tryz.prog 17 #[.agg #[.slice A n c], .agg #[.slice B m d]] u fun e w' => e = .returned (.bool (At.sameL (cts l) (cts l'))) ∧ Below u.heap.size u w') := Lib.hid (fun u hu => asame_any A B c d l l' n m u HN.out HN2.out (E2.out u hu).2.2.1 (E2.out u hu).2.2.2.1)
    have G1 : Hid (∀ u, OldB u2 u → Calls Tryz.prog 21 #[.agg #[.slice A n c]] u (StrsPost u ((cts l).map digestF))) := Lib.hid (fun u hu => rdigests_any A n c l u HN.out (by omega) (E2.out u hu).2.2.1 S1.out)
    have G2 : Hid (∀ u, OldB u2 u → Calls Tryz.prog 21 #[.agg #[.slice B m d]] u (StrsPost u ((cts l').map digestF))) := Lib.hid (fun u hu => rdigests_any B m d l' u HN2.out (by omega) (E2.out u hu).2.2.2.1 S2.out)
    have X1 := Lib.hid (digest_isD (cts l))
    have LX := digestM_len (cts l)
    have SE : Hid (At.sameL (cts l) (cts l') = true → digestM (cts l) = digestM (cts l')) := Lib.hid (fun h => by rw [At.sameL_iff.1 h])
    have LAW : Hid (At.validM (cts l) = true → At.validM (cts l') = true → At.sameL (cts l) (cts l') = false → digestM (cts l) = digestM (cts l') → (Dg.joined ((cts l).map digestF) ≠ Dg.joined ((cts l').map digestF) → Dg.sumL (Dg.joined ((cts l).map digestF)) = Dg.sumL (Dg.joined ((cts l').map digestF))) ∧ (Dg.joined ((cts l).map digestF) = Dg.joined ((cts l').map digestF) → n = m ∧ ∃ i, ∃ (h1 : i < l.length) (h2 : i < l'.length), Dg.joined (fieldsL l[i].c) ≠ Dg.joined (fieldsL l'[i].c) ∧ Dg.sumL (Dg.joined (fieldsL l[i].c)) = Dg.sumL (Dg.joined (fieldsL l'[i].c)))) := Lib.hid (fun v1 v2 s e => by
      obtain ⟨p1, p2⟩ := digests_law v1 v2 (fun h => by rw [h, At.sameL_iff.2 rfl] at s; cases s) e
      refine ⟨p1, fun h => ⟨?_, ?_⟩⟩
      · have := congrArg List.length (Dg.joined_inj h)
        rw [List.length_map, List.length_map, cts_len, cts_len] at this
        rw [HN.out, HN2.out]; exact this
      · obtain ⟨i, h1, h2, q1, q2⟩ := p2 h
        rw [cts_len] at h1 h2
        refine ⟨i, h1, h2, ?_, ?_⟩
        · simpa [cts] using q1
        · simpa [cts] using q2)
    have SZ1 := Lib.hid (digests_szT l (by rw [← HN.out]; exact hl))
    have SZ2 := Lib.hid (digests_szT l' (by rw [← HN2.out]; exact hl2))
    have FA : Hid (At.validM (cts l) = true → ∀ k (hk : k < l.length) u, OldB u2 u → Calls Tryz.prog 24 #[roA l[k]] u (StrsPost u (fieldsL l[k].c)) ∧ (fieldsL l[k].c).length ≤ 300 ∧ ∀ s ∈ fieldsL l[k].c, s.length ≤ 300) := Lib.hid (fun v k hk u hu => by
      have hv := (At.validM_iff.1 v).2.1 l[k].c (List.mem_map.2 ⟨_, List.getElem_mem hk, rfl⟩)
      exact ⟨rfields_any l[k] u ((E2.out u hu).2.2.1.ob _ (List.getElem_mem hk)) hv, fields_len hv (S1.out _ (List.getElem_mem hk)).refs, (fields_sz hv).1⟩)
    have FB : Hid (At.validM (cts l') = true → ∀ k (hk : k < l'.length) u, OldB u2 u → Calls Tryz.prog 24 #[roA l'[k]] u (StrsPost u (fieldsL l'[k].c)) ∧ (fieldsL l'[k].c).length ≤ 300 ∧ ∀ s ∈ fieldsL l'[k].c, s.length ≤ 300) := Lib.hid (fun v k hk u hu => by
      have hv := (At.validM_iff.1 v).2.1 l'[k].c (List.mem_map.2 ⟨_, List.getElem_mem hk, rfl⟩)
      exact ⟨rfields_any l'[k] u ((E2.out u hu).2.2.2.1.ob _ (List.getElem_mem hk)) hv, fields_len hv (S2.out _ (List.getElem_mem hk)).refs, (fields_sz hv).1⟩)
    have MA : Hid (∀ u, OldB u2 u → Ms u A l) := Lib.hid (fun u hu => (E2.out u hu).2.2.1)
    have MB : Hid (∀ u, OldB u2 u → Ms u B l') := Lib.hid (fun u hu => (E2.out u hu).2.2.2.1)
    have BZ : Hid (∀ u, OldB u2 u → Below w.heap.size w u) := Lib.hid (fun u hu => (E2.out u hu).2.2.2.2)
    clear hf k0 k1 MS MT S1 S2 M1 M2 ENV E2 BW2
    go_upto_region 4 with fail
    (refine wp_region_noPanic ?_; refine wp_region_held_drew (S := (OldB u2)) (by kernel_rfl) ?_ (fun hHeld => ?_); exact Below.drew (Below.refl _ _))
    (refine wpAnyH_take (i := 0) (oi := _) (v := ?_) rfl (by kernel_rfl) (by kernel_rfl) (by kernel_rfl) (fun _ _ _ h => h) (Or.inl ⟨?_, ?_⟩) (by assumption) ?_; rotate_left; (focus (first | rfl | (simp [Region.wanted, yielded]; done))); (focus (intro w hSw; (try dsimp only at hSw); go_simp; all_goals (with_reducible rfl))); try simp only [Act.put, List.getElem_toArray, List.getElem_cons_zero, List.getElem_cons_succ, List.setIfInBounds_toArray, List.set_cons_zero, List.set_cons_succ])
    (refine wpAnyH_take (i := 2) (oi := _) (v := ?_) rfl (by kernel_rfl) (by kernel_rfl) (by kernel_rfl) (fun _ _ _ h => h) (Or.inl ⟨?_, ?_⟩) (by assumption) ?_; rotate_left; (focus (first | rfl | (simp [Region.wanted, yielded]; done))); (focus (intro w hSw; (try dsimp only at hSw); go_simp; all_goals (with_reducible rfl))); try simp only [Act.put, List.getElem_toArray, List.getElem_cons_zero, List.getElem_cons_succ, List.setIfInBounds_toArray, List.set_cons_zero, List.set_cons_succ])
    (refine wpAnyH_ready (rs := [1]) (by kernel_rfl) (by simp) ?_; refine AllReadyH.cons (o := _) rfl (fun K hK => ?_) AllReadyH.nil; go_simp)
    refine (D1.out _ hHeld).mono ?_
    rintro e y1 ⟨rfl, b1⟩
    (refine hK.out _ _ (OldB.then hHeld b1) (fun hHeld2 => ?_); clear hK K hHeld; have hHeld := hHeld2; clear hHeld2; try simp only [Act.put, List.getElem_toArray, List.getElem_cons_zero, List.getElem_cons_succ, List.setIfInBounds_toArray, List.set_cons_zero, List.set_cons_succ])
    (refine wpAnyH_ready (rs := [3]) (by kernel_rfl) (by simp) ?_; refine AllReadyH.cons (o := _) rfl (fun K hK => ?_) AllReadyH.nil; go_simp)
    refine (D2.out _ hHeld).mono ?_
    rintro e y2 ⟨rfl, b2⟩
    (refine hK.out _ _ (OldB.then hHeld b2) (fun hHeld2 => ?_); clear hK K hHeld; have hHeld := hHeld2; clear hHeld2; try simp only [Act.put, List.getElem_toArray, List.getElem_cons_zero, List.getElem_cons_succ, List.setIfInBounds_toArray, List.set_cons_zero, List.set_cons_succ])
    (refine wpAnyH_take (i := 4) (oi := _) (v := ?_) rfl (by kernel_rfl) (by kernel_rfl) (by kernel_rfl) (fun _ _ _ h => h) (Or.inl ⟨?_, ?_⟩) (by assumption) ?_; rotate_left; (focus (first | rfl | (simp [Region.wanted, yielded]; done))); (focus (intro w hSw; (try dsimp only at hSw); go_simp; all_goals (with_reducible rfl))); try simp only [Act.put, List.getElem_toArray, List.getElem_cons_zero, List.getElem_cons_succ, List.setIfInBounds_toArray, List.set_cons_zero, List.set_cons_succ])
    (refine wpAnyH_take (i := 5) (oi := _) (v := ?_) rfl (by kernel_rfl) (by kernel_rfl) (by kernel_rfl) (fun _ _ _ h => h) (Or.inl ⟨?_, ?_⟩) (by assumption) ?_; rotate_left; (focus (first | rfl | (simp [Region.wanted, yielded]; done))); (focus (intro w hSw; (try dsimp only at hSw); go_simp; all_goals (with_reducible rfl))); try simp only [Act.put, List.getElem_toArray, List.getElem_cons_zero, List.getElem_cons_succ, List.setIfInBounds_toArray, List.set_cons_zero, List.set_cons_succ])
    have O2 := Lib.hid hHeld
    (refine wpAnyH_done (by kernel_rfl) ?_ _; refine NoPanic.normal ?_)
    clear hHeld b1 b2 D1 D2
    have tx := mkB_tl (digestM (cts l))
    have ty := mkB_tl (digestM (cts l'))
    have IS := Lib.hid (fun u => isT_any (digestM (cts l)) u (by omega))
    rw [X1.out] at IS
    clear LX
    have EXY : Hid (digestM (cts l) = digestM (cts l') → (digestM (cts l) == digestM (cts l')) = true) := Lib.hid (fun h => by rw [h]; simp)
    generalize digestM (cts l) = X at *
    generalize digestM (cts l') = Y at *
    generalize At.validM (cts l) = vl at *
    generalize At.validM (cts l') = v2 at *
    generalize At.sameL (cts l) (cts l') = sm at *
    cases vl with
    | false =>
      cases sm with
      | false =>
        go_upto_region 5 with fail
        (refine wp_region_noPanic ?_; refine wp_region_held_drew (S := (OldB u2)) (by kernel_rfl) ?_ (fun hHeld => ?_); exact Below.drew O2.out)
        (refine wpAnyH_take (i := 0) (oi := _) (v := ?_) rfl (by kernel_rfl) (by kernel_rfl) (by kernel_rfl) (fun _ _ _ h => h) (Or.inl ⟨?_, ?_⟩) (by assumption) ?_; rotate_left; (focus (first | rfl | (simp [Region.wanted, yielded]; done))); (focus (intro w hSw; (try dsimp only at hSw); go_simp; all_goals (with_reducible rfl))); try simp only [Act.put, List.getElem_toArray, List.getElem_cons_zero, List.getElem_cons_succ, List.setIfInBounds_toArray, List.set_cons_zero, List.set_cons_succ])
        (refine wpAnyH_take (i := 2) (oi := _) (v := ?_) rfl (by kernel_rfl) (by kernel_rfl) (by kernel_rfl) (fun _ _ _ h => h) (Or.inl ⟨?_, ?_⟩) (by assumption) ?_; rotate_left; (focus (first | rfl | (simp [Region.wanted, yielded]; done))); (focus (intro w hSw; (try dsimp only at hSw); go_simp; all_goals (with_reducible rfl))); try simp only [Act.put, List.getElem_toArray, List.getElem_cons_zero, List.getElem_cons_succ, List.setIfInBounds_toArray, List.set_cons_zero, List.set_cons_succ])
        (refine wpAnyH_ready (rs := [1]) (by kernel_rfl) (by simp) ?_; refine AllReadyH.cons (o := _) rfl (fun K hK => ?_) AllReadyH.nil; go_simp)
        refine (IS.out _).mono ?_
        rintro e y3 ⟨rfl, b3⟩
        (refine hK.out _ _ (OldB.then hHeld b3) (fun hHeld2 => ?_); clear hK K hHeld; have hHeld := hHeld2; clear hHeld2; try simp only [Act.put, List.getElem_toArray, List.getElem_cons_zero, List.getElem_cons_succ, List.setIfInBounds_toArray, List.set_cons_zero, List.set_cons_succ])
        (refine wpAnyH_ready (rs := [3]) (by kernel_rfl) (by simp) ?_; refine AllReadyH.cons (o := _) rfl (fun K hK => ?_) AllReadyH.nil; go_simp)
        refine (V1.out _ hHeld).mono ?_
        rintro e y4 ⟨rfl, b4⟩
        (refine hK.out _ _ (OldB.then hHeld b4) (fun hHeld2 => ?_); clear hK K hHeld; have hHeld := hHeld2; clear hHeld2; try simp only [Act.put, List.getElem_toArray, List.getElem_cons_zero, List.getElem_cons_succ, List.setIfInBounds_toArray, List.set_cons_zero, List.set_cons_succ])
        (refine wpAnyH_take (i := 4) (oi := _) (v := ?_) rfl (by kernel_rfl) (by kernel_rfl) (by kernel_rfl) (fun _ _ _ h => h) (Or.inl ⟨?_, ?_⟩) (by assumption) ?_; rotate_left; (focus (first | rfl | (simp [Region.wanted, yielded]; done))); (focus (intro w hSw; (try dsimp only at hSw); go_simp; all_goals (with_reducible rfl))); try simp only [Act.put, List.getElem_toArray, List.getElem_cons_zero, List.getElem_cons_succ, List.setIfInBounds_toArray, List.set_cons_zero, List.set_cons_succ])
        (refine wpAnyH_take (i := 5) (oi := _) (v := ?_) rfl (by kernel_rfl) (by kernel_rfl) (by kernel_rfl) (fun _ _ _ h => h) (Or.inl ⟨?_, ?_⟩) (by assumption) ?_; rotate_left; (focus (first | rfl | (simp [Region.wanted, yielded]; done))); (focus (intro w hSw; (try dsimp only at hSw); go_simp; all_goals (with_reducible rfl))); try simp only [Act.put, List.getElem_toArray, List.getElem_cons_zero, List.getElem_cons_succ, List.setIfInBounds_toArray, List.set_cons_zero, List.set_cons_succ])
        (refine wpAnyH_take (i := 6) (oi := _) (v := ?_) rfl (by kernel_rfl) (by kernel_rfl) (by kernel_rfl) (fun _ _ _ h => h) (Or.inl ⟨?_, ?_⟩) (by assumption) ?_; rotate_left; (focus (first | rfl | (simp [Region.wanted, yielded]; done))); (focus (intro w hSw; (try dsimp only at hSw); go_simp; all_goals (with_reducible rfl))); try simp only [Act.put, List.getElem_toArray, List.getElem_cons_zero, List.getElem_cons_succ, List.setIfInBounds_toArray, List.set_cons_zero, List.set_cons_succ])
        (refine wpAnyH_take (i := 7) (oi := _) (v := ?_) rfl (by kernel_rfl) (by kernel_rfl) (by kernel_rfl) (fun _ _ _ h => h) (Or.inl ⟨?_, ?_⟩) (by assumption) ?_; rotate_left; (focus (first | rfl | (simp [Region.wanted, yielded]; done))); (focus (intro w hSw; (try dsimp only at hSw); go_simp; all_goals (with_reducible rfl))); try simp only [Act.put, List.getElem_toArray, List.getElem_cons_zero, List.getElem_cons_succ, List.setIfInBounds_toArray, List.set_cons_zero, List.set_cons_succ])
        (refine wpAnyH_ready (rs := [8]) (by kernel_rfl) (by simp) ?_; refine AllReadyH.cons (o := _) rfl (fun K hK => ?_) AllReadyH.nil; go_simp)
        refine (SA.out _ hHeld).mono ?_
        rintro e y5 ⟨rfl, b5⟩
        (refine hK.out _ _ (OldB.then hHeld b5) (fun hHeld2 => ?_); clear hK K hHeld; have hHeld := hHeld2; clear hHeld2; try simp only [Act.put, List.getElem_toArray, List.getElem_cons_zero, List.getElem_cons_succ, List.setIfInBounds_toArray, List.set_cons_zero, List.set_cons_succ])
        (refine wpAnyH_take (i := 9) (oi := _) (v := ?_) rfl (by kernel_rfl) (by kernel_rfl) (by kernel_rfl) (fun _ _ _ h => h) (Or.inl ⟨?_, ?_⟩) (by assumption) ?_; rotate_left; (focus (first | rfl | (simp [Region.wanted, yielded]; done))); (focus (intro w hSw; (try dsimp only at hSw); go_simp; all_goals (with_reducible rfl))); try simp only [Act.put, List.getElem_toArray, List.getElem_cons_zero, List.getElem_cons_succ, List.setIfInBounds_toArray, List.set_cons_zero, List.set_cons_succ])
        (refine wpAnyH_take (i := 10) (oi := _) (v := undef) rfl (by kernel_rfl) (by kernel_rfl) (by kernel_rfl) (fun _ _ _ h => h) (Or.inr ⟨?_, rfl⟩) (by assumption) ?_; (focus (first | (simp [Region.wanted, yielded]; done) | (simp [Region.wanted, yielded, undef]; done) | (simp [Region.wanted, yielded]; decide))); try simp only [Act.put, List.getElem_toArray, List.getElem_cons_zero, List.getElem_cons_succ, List.setIfInBounds_toArray, List.set_cons_zero, List.set_cons_succ])
        (refine wpAnyH_take (i := 11) (oi := _) (v := undef) rfl (by kernel_rfl) (by kernel_rfl) (by kernel_rfl) (fun _ _ _ h => h) (Or.inr ⟨?_, rfl⟩) (by assumption) ?_; (focus (first | (simp [Region.wanted, yielded]; done) | (simp [Region.wanted, yielded, undef]; done) | (simp [Region.wanted, yielded]; decide))); try simp only [Act.put, List.getElem_toArray, List.getElem_cons_zero, List.getElem_cons_succ, List.setIfInBounds_toArray, List.set_cons_zero, List.set_cons_succ])
        (refine wpAnyH_take (i := 12) (oi := _) (v := undef) rfl (by kernel_rfl) (by kernel_rfl) (by kernel_rfl) (fun _ _ _ h => h) (Or.inr ⟨?_, rfl⟩) (by assumption) ?_; (focus (first | (simp [Region.wanted, yielded]; done) | (simp [Region.wanted, yielded, undef]; done) | (simp [Region.wanted, yielded]; decide))); try simp only [Act.put, List.getElem_toArray, List.getElem_cons_zero, List.getElem_cons_succ, List.setIfInBounds_toArray, List.set_cons_zero, List.set_cons_succ])
        (refine wpAnyH_take (i := 13) (oi := _) (v := ?_) rfl (by kernel_rfl) (by kernel_rfl) (by kernel_rfl) (fun _ _ _ h => h) (Or.inl ⟨?_, ?_⟩) (by assumption) ?_; rotate_left; (focus (first | rfl | (simp [Region.wanted, yielded]; done))); (focus (intro w hSw; (try dsimp only at hSw); go_simp; all_goals (with_reducible rfl))); try simp only [Act.put, List.getElem_toArray, List.getElem_cons_zero, List.getElem_cons_succ, List.setIfInBounds_toArray, List.set_cons_zero, List.set_cons_succ])
        (refine wpAnyH_take (i := 14) (oi := _) (v := ?_) rfl (by kernel_rfl) (by kernel_rfl) (by kernel_rfl) (fun _ _ _ h => h) (Or.inl ⟨?_, ?_⟩) (by assumption) ?_; rotate_left; (focus (first | rfl | (simp [Region.wanted, yielded]; done))); (focus (intro w hSw; (try dsimp only at hSw); go_simp; all_goals (with_reducible rfl))); try simp only [Act.put, List.getElem_toArray, List.getElem_cons_zero, List.getElem_cons_succ, List.setIfInBounds_toArray, List.set_cons_zero, List.set_cons_succ])
        have O5 := Lib.hid hHeld
        (refine wpAnyH_done (by kernel_rfl) ?_ _; refine NoPanic.normal ?_)
        clear hHeld b3 b4 b5
        have k0 := K0 _ O5.out
        have k1 := K1 _ O5.out
        go_wp2_with fail
        refine (V1.out _ O5.out).mono ?_
        rintro e y6 ⟨rfl, bb⟩
        have O6 := Lib.hid (show OldB u2 _ from OldB.then O5.out bb)
        clear bb
        go_wp2_with fail
        go_ret
        exact ⟨rfl, BZ.out _ O6.out⟩
      | true =>
        have exy := EXY.out (SE.out rfl)
        go_upto_region 5 with fail
        (refine wp_region_noPanic ?_; refine wp_region_held_drew (S := (OldB u2)) (by kernel_rfl) ?_ (fun hHeld => ?_); exact Below.drew O2.out)
        (refine wpAnyH_take (i := 0) (oi := _) (v := ?_) rfl (by kernel_rfl) (by kernel_rfl) (by kernel_rfl) (fun _ _ _ h => h) (Or.inl ⟨?_, ?_⟩) (by assumption) ?_; rotate_left; (focus (first | rfl | (simp [Region.wanted, yielded]; done))); (focus (intro w hSw; (try dsimp only at hSw); go_simp; all_goals (with_reducible rfl))); try simp only [Act.put, List.getElem_toArray, List.getElem_cons_zero, List.getElem_cons_succ, List.setIfInBounds_toArray, List.set_cons_zero, List.set_cons_succ])
        (refine wpAnyH_take (i := 2) (oi := _) (v := ?_) rfl (by kernel_rfl) (by kernel_rfl) (by kernel_rfl) (fun _ _ _ h => h) (Or.inl ⟨?_, ?_⟩) (by assumption) ?_; rotate_left; (focus (first | rfl | (simp [Region.wanted, yielded]; done))); (focus (intro w hSw; (try dsimp only at hSw); go_simp; all_goals (with_reducible rfl))); try simp only [Act.put, List.getElem_toArray, List.getElem_cons_zero, List.getElem_cons_succ, List.setIfInBounds_toArray, List.set_cons_zero, List.set_cons_succ])
        (refine wpAnyH_ready (rs := [1]) (by kernel_rfl) (by simp) ?_; refine AllReadyH.cons (o := _) rfl (fun K hK => ?_) AllReadyH.nil; go_simp)
        refine (IS.out _).mono ?_
        rintro e y3 ⟨rfl, b3⟩
        (refine hK.out _ _ (OldB.then hHeld b3) (fun hHeld2 => ?_); clear hK K hHeld; have hHeld := hHeld2; clear hHeld2; try simp only [Act.put, List.getElem_toArray, List.getElem_cons_zero, List.getElem_cons_succ, List.setIfInBounds_toArray, List.set_cons_zero, List.set_cons_succ])
        (refine wpAnyH_ready (rs := [3]) (by kernel_rfl) (by simp) ?_; refine AllReadyH.cons (o := _) rfl (fun K hK => ?_) AllReadyH.nil; go_simp)
        refine (V1.out _ hHeld).mono ?_
        rintro e y4 ⟨rfl, b4⟩
        (refine hK.out _ _ (OldB.then hHeld b4) (fun hHeld2 => ?_); clear hK K hHeld; have hHeld := hHeld2; clear hHeld2; try simp only [Act.put, List.getElem_toArray, List.getElem_cons_zero, List.getElem_cons_succ, List.setIfInBounds_toArray, List.set_cons_zero, List.set_cons_succ])
        (refine wpAnyH_take (i := 4) (oi := _) (v := ?_) rfl (by kernel_rfl) (by kernel_rfl) (by kernel_rfl) (fun _ _ _ h => h) (Or.inl ⟨?_, ?_⟩) (by assumption) ?_; rotate_left; (focus (first | rfl | (simp [Region.wanted, yielded]; done))); (focus (intro w hSw; (try dsimp only at hSw); go_simp; all_goals (with_reducible rfl))); try simp only [Act.put, List.getElem_toArray, List.getElem_cons_zero, List.getElem_cons_succ, List.setIfInBounds_toArray, List.set_cons_zero, List.set_cons_succ])
        (refine wpAnyH_take (i := 5) (oi := _) (v := ?_) rfl (by kernel_rfl) (by kernel_rfl) (by kernel_rfl) (fun _ _ _ h => h) (Or.inl ⟨?_, ?_⟩) (by assumption) ?_; rotate_left; (focus (first | rfl | (simp [Region.wanted, yielded]; done))); (focus (intro w hSw; (try dsimp only at hSw); go_simp; all_goals (with_reducible rfl))); try simp only [Act.put, List.getElem_toArray, List.getElem_cons_zero, List.getElem_cons_succ, List.setIfInBounds_toArray, List.set_cons_zero, List.set_cons_succ])
        (refine wpAnyH_take (i := 6) (oi := _) (v := ?_) rfl (by kernel_rfl) (by kernel_rfl) (by kernel_rfl) (fun _ _ _ h => h) (Or.inl ⟨?_, ?_⟩) (by assumption) ?_; rotate_left; (focus (first | rfl | (simp [Region.wanted, yielded]; done))); (focus (intro w hSw; (try dsimp only at hSw); go_simp; all_goals (with_reducible rfl))); try simp only [Act.put, List.getElem_toArray, List.getElem_cons_zero, List.getElem_cons_succ, List.setIfInBounds_toArray, List.set_cons_zero, List.set_cons_succ])
        (refine wpAnyH_take (i := 7) (oi := _) (v := ?_) rfl (by kernel_rfl) (by kernel_rfl) (by kernel_rfl) (fun _ _ _ h => h) (Or.inl ⟨?_, ?_⟩) (by assumption) ?_; rotate_left; (focus (first | rfl | (simp [Region.wanted, yielded]; done))); (focus (intro w hSw; (try dsimp only at hSw); go_simp; all_goals (with_reducible rfl))); try simp only [Act.put, List.getElem_toArray, List.getElem_cons_zero, List.getElem_cons_succ, List.setIfInBounds_toArray, List.set_cons_zero, List.set_cons_succ])
        (refine wpAnyH_ready (rs := [8]) (by kernel_rfl) (by simp) ?_; refine AllReadyH.cons (o := _) rfl (fun K hK => ?_) AllReadyH.nil; go_simp)
        refine (SA.out _ hHeld).mono ?_
        rintro e y5 ⟨rfl, b5⟩
        (refine hK.out _ _ (OldB.then hHeld b5) (fun hHeld2 => ?_); clear hK K hHeld; have hHeld := hHeld2; clear hHeld2; try simp only [Act.put, List.getElem_toArray, List.getElem_cons_zero, List.getElem_cons_succ, List.setIfInBounds_toArray, List.set_cons_zero, List.set_cons_succ])
        (refine wpAnyH_take (i := 9) (oi := _) (v := ?_) rfl (by kernel_rfl) (by kernel_rfl) (by kernel_rfl) (fun _ _ _ h => h) (Or.inl ⟨?_, ?_⟩) (by assumption) ?_; rotate_left; (focus (first | rfl | (simp [Region.wanted, yielded]; done))); (focus (intro w hSw; (try dsimp only at hSw); go_simp; all_goals (with_reducible rfl))); try simp only [Act.put, List.getElem_toArray, List.getElem_cons_zero, List.getElem_cons_succ, List.setIfInBounds_toArray, List.set_cons_zero, List.set_cons_succ])
        (refine wpAnyH_take (i := 10) (oi := _) (v := ?_) rfl (by kernel_rfl) (by kernel_rfl) (by kernel_rfl) (fun _ _ _ h => h) (Or.inl ⟨?_, ?_⟩) (by assumption) ?_; rotate_left; (focus (first | rfl | (simp [Region.wanted, yielded]; done))); (focus (intro w hSw; (try dsimp only at hSw); go_simp; all_goals (with_reducible rfl))); try simp only [Act.put, List.getElem_toArray, List.getElem_cons_zero, List.getElem_cons_succ, List.setIfInBounds_toArray, List.set_cons_zero, List.set_cons_succ])
        (refine wpAnyH_take (i := 11) (oi := _) (v := ?_) rfl (by kernel_rfl) (by kernel_rfl) (by kernel_rfl) (fun _ _ _ h => h) (Or.inl ⟨?_, ?_⟩) (by assumption) ?_; rotate_left; (focus (first | rfl | (simp [Region.wanted, yielded]; done))); (focus (intro w hSw; (try dsimp only at hSw); go_simp; all_goals (with_reducible rfl))); try simp only [Act.put, List.getElem_toArray, List.getElem_cons_zero, List.getElem_cons_succ, List.setIfInBounds_toArray, List.set_cons_zero, List.set_cons_succ])
        (refine wpAnyH_take (i := 12) (oi := _) (v := ?_) rfl (by kernel_rfl) (by kernel_rfl) (by kernel_rfl) (fun _ _ _ h => h) (Or.inl ⟨?_, ?_⟩) (by assumption) ?_; rotate_left; (focus (first | rfl | (simp [Region.wanted, yielded]; done))); (focus (intro w hSw; (try dsimp only at hSw); go_simp; all_goals (with_reducible rfl))); try simp only [Act.put, List.getElem_toArray, List.getElem_cons_zero, List.getElem_cons_succ, List.setIfInBounds_toArray, List.set_cons_zero, List.set_cons_succ])
        (refine wpAnyH_take (i := 13) (oi := _) (v := ?_) rfl (by kernel_rfl) (by kernel_rfl) (by kernel_rfl) (fun _ _ _ h => h) (Or.inl ⟨?_, ?_⟩) (by assumption) ?_; rotate_left; (focus (first | rfl | (simp [Region.wanted, yielded]; done))); (focus (intro w hSw; (try dsimp only at hSw); go_simp; all_goals (with_reducible rfl))); try simp only [Act.put, List.getElem_toArray, List.getElem_cons_zero, List.getElem_cons_succ, List.setIfInBounds_toArray, List.set_cons_zero, List.set_cons_succ])
        (refine wpAnyH_take (i := 14) (oi := _) (v := ?_) rfl (by kernel_rfl) (by kernel_rfl) (by kernel_rfl) (fun _ _ _ h => h) (Or.inl ⟨?_, ?_⟩) (by assumption) ?_; rotate_left; (focus (first | rfl | (simp [Region.wanted, yielded]; done))); (focus (intro w hSw; (try dsimp only at hSw); go_simp; all_goals (with_reducible rfl))); try simp only [Act.put, List.getElem_toArray, List.getElem_cons_zero, List.getElem_cons_succ, List.setIfInBounds_toArray, List.set_cons_zero, List.set_cons_succ])
        have O5 := Lib.hid hHeld
        (refine wpAnyH_done (by kernel_rfl) ?_ _; refine NoPanic.normal ?_)
        clear hHeld b3 b4 b5
        have k0 := K0 _ O5.out
        have k1 := K1 _ O5.out
        go_wp2_with fail
        refine (V1.out _ O5.out).mono ?_
        rintro e y6 ⟨rfl, bb⟩
        have O6 := Lib.hid (show OldB u2 _ from OldB.then O5.out bb)
        clear bb
        go_wp2_with fail
        go_ret
        exact ⟨rfl, BZ.out _ O6.out⟩
    | true =>
      cases sm with
      | true =>
        have exy := EXY.out (SE.out rfl)
        go_upto_region 5 with fail
        (refine wp_region_noPanic ?_; refine wp_region_held_drew (S := (OldB u2)) (by kernel_rfl) ?_ (fun hHeld => ?_); exact Below.drew O2.out)
        (refine wpAnyH_take (i := 0) (oi := _) (v := ?_) rfl (by kernel_rfl) (by kernel_rfl) (by kernel_rfl) (fun _ _ _ h => h) (Or.inl ⟨?_, ?_⟩) (by assumption) ?_; rotate_left; (focus (first | rfl | (simp [Region.wanted, yielded]; done))); (focus (intro w hSw; (try dsimp only at hSw); go_simp; all_goals (with_reducible rfl))); try simp only [Act.put, List.getElem_toArray, List.getElem_cons_zero, List.getElem_cons_succ, List.setIfInBounds_toArray, List.set_cons_zero, List.set_cons_succ])
        (refine wpAnyH_take (i := 2) (oi := _) (v := ?_) rfl (by kernel_rfl) (by kernel_rfl) (by kernel_rfl) (fun _ _ _ h => h) (Or.inl ⟨?_, ?_⟩) (by assumption) ?_; rotate_left; (focus (first | rfl | (simp [Region.wanted, yielded]; done))); (focus (intro w hSw; (try dsimp only at hSw); go_simp; all_goals (with_reducible rfl))); try simp only [Act.put, List.getElem_toArray, List.getElem_cons_zero, List.getElem_cons_succ, List.setIfInBounds_toArray, List.set_cons_zero, List.set_cons_succ])
        (refine wpAnyH_ready (rs := [1]) (by kernel_rfl) (by simp) ?_; refine AllReadyH.cons (o := _) rfl (fun K hK => ?_) AllReadyH.nil; go_simp)
        refine (IS.out _).mono ?_
        rintro e y3 ⟨rfl, b3⟩
        (refine hK.out _ _ (OldB.then hHeld b3) (fun hHeld2 => ?_); clear hK K hHeld; have hHeld := hHeld2; clear hHeld2; try simp only [Act.put, List.getElem_toArray, List.getElem_cons_zero, List.getElem_cons_succ, List.setIfInBounds_toArray, List.set_cons_zero, List.set_cons_succ])
        (refine wpAnyH_ready (rs := [3]) (by kernel_rfl) (by simp) ?_; refine AllReadyH.cons (o := _) rfl (fun K hK => ?_) AllReadyH.nil; go_simp)
        refine (V1.out _ hHeld).mono ?_
        rintro e y4 ⟨rfl, b4⟩
        (refine hK.out _ _ (OldB.then hHeld b4) (fun hHeld2 => ?_); clear hK K hHeld; have hHeld := hHeld2; clear hHeld2; try simp only [Act.put, List.getElem_toArray, List.getElem_cons_zero, List.getElem_cons_succ, List.setIfInBounds_toArray, List.set_cons_zero, List.set_cons_succ])
        (refine wpAnyH_take (i := 4) (oi := _) (v := ?_) rfl (by kernel_rfl) (by kernel_rfl) (by kernel_rfl) (fun _ _ _ h => h) (Or.inl ⟨?_, ?_⟩) (by assumption) ?_; rotate_left; (focus (first | rfl | (simp [Region.wanted, yielded]; done))); (focus (intro w hSw; (try dsimp only at hSw); go_simp; all_goals (with_reducible rfl))); try simp only [Act.put, List.getElem_toArray, List.getElem_cons_zero, List.getElem_cons_succ, List.setIfInBounds_toArray, List.set_cons_zero, List.set_cons_succ])
        (refine wpAnyH_take (i := 5) (oi := _) (v := ?_) rfl (by kernel_rfl) (by kernel_rfl) (by kernel_rfl) (fun _ _ _ h => h) (Or.inl ⟨?_, ?_⟩) (by assumption) ?_; rotate_left; (focus (first | rfl | (simp [Region.wanted, yielded]; done))); (focus (intro w hSw; (try dsimp only at hSw); go_simp; all_goals (with_reducible rfl))); try simp only [Act.put, List.getElem_toArray, List.getElem_cons_zero, List.getElem_cons_succ, List.setIfInBounds_toArray, List.set_cons_zero, List.set_cons_succ])
        (refine wpAnyH_take (i := 6) (oi := _) (v := ?_) rfl (by kernel_rfl) (by kernel_rfl) (by kernel_rfl) (fun _ _ _ h => h) (Or.inl ⟨?_, ?_⟩) (by assumption) ?_; rotate_left; (focus (first | rfl | (simp [Region.wanted, yielded]; done))); (focus (intro w hSw; (try dsimp only at hSw); go_simp; all_goals (with_reducible rfl))); try simp only [Act.put, List.getElem_toArray, List.getElem_cons_zero, List.getElem_cons_succ, List.setIfInBounds_toArray, List.set_cons_zero, List.set_cons_succ])
        (refine wpAnyH_take (i := 7) (oi := _) (v := ?_) rfl (by kernel_rfl) (by kernel_rfl) (by kernel_rfl) (fun _ _ _ h => h) (Or.inl ⟨?_, ?_⟩) (by assumption) ?_; rotate_left; (focus (first | rfl | (simp [Region.wanted, yielded]; done))); (focus (intro w hSw; (try dsimp only at hSw); go_simp; all_goals (with_reducible rfl))); try simp only [Act.put, List.getElem_toArray, List.getElem_cons_zero, List.getElem_cons_succ, List.setIfInBounds_toArray, List.set_cons_zero, List.set_cons_succ])
        (refine wpAnyH_ready (rs := [8]) (by kernel_rfl) (by simp) ?_; refine AllReadyH.cons (o := _) rfl (fun K hK => ?_) AllReadyH.nil; go_simp)
        refine (SA.out _ hHeld).mono ?_
        rintro e y5 ⟨rfl, b5⟩
        (refine hK.out _ _ (OldB.then hHeld b5) (fun hHeld2 => ?_); clear hK K hHeld; have hHeld := hHeld2; clear hHeld2; try simp only [Act.put, List.getElem_toArray, List.getElem_cons_zero, List.getElem_cons_succ, List.setIfInBounds_toArray, List.set_cons_zero, List.set_cons_succ])
        (refine wpAnyH_take (i := 9) (oi := _) (v := ?_) rfl (by kernel_rfl) (by kernel_rfl) (by kernel_rfl) (fun _ _ _ h => h) (Or.inl ⟨?_, ?_⟩) (by assumption) ?_; rotate_left; (focus (first | rfl | (simp [Region.wanted, yielded]; done))); (focus (intro w hSw; (try dsimp only at hSw); go_simp; all_goals (with_reducible rfl))); try simp only [Act.put, List.getElem_toArray, List.getElem_cons_zero, List.getElem_cons_succ, List.setIfInBounds_toArray, List.set_cons_zero, List.set_cons_succ])
        (refine wpAnyH_take (i := 10) (oi := _) (v := ?_) rfl (by kernel_rfl) (by kernel_rfl) (by kernel_rfl) (fun _ _ _ h => h) (Or.inl ⟨?_, ?_⟩) (by assumption) ?_; rotate_left; (focus (first | rfl | (simp [Region.wanted, yielded]; done))); (focus (intro w hSw; (try dsimp only at hSw); go_simp; all_goals (with_reducible rfl))); try simp only [Act.put, List.getElem_toArray, List.getElem_cons_zero, List.getElem_cons_succ, List.setIfInBounds_toArray, List.set_cons_zero, List.set_cons_succ])
        (refine wpAnyH_take (i := 11) (oi := _) (v := ?_) rfl (by kernel_rfl) (by kernel_rfl) (by kernel_rfl) (fun _ _ _ h => h) (Or.inl ⟨?_, ?_⟩) (by assumption) ?_; rotate_left; (focus (first | rfl | (simp [Region.wanted, yielded]; done))); (focus (intro w hSw; (try dsimp only at hSw); go_simp; all_goals (with_reducible rfl))); try simp only [Act.put, List.getElem_toArray, List.getElem_cons_zero, List.getElem_cons_succ, List.setIfInBounds_toArray, List.set_cons_zero, List.set_cons_succ])
        (refine wpAnyH_take (i := 12) (oi := _) (v := ?_) rfl (by kernel_rfl) (by kernel_rfl) (by kernel_rfl) (fun _ _ _ h => h) (Or.inl ⟨?_, ?_⟩) (by assumption) ?_; rotate_left; (focus (first | rfl | (simp [Region.wanted, yielded]; done))); (focus (intro w hSw; (try dsimp only at hSw); go_simp; all_goals (with_reducible rfl))); try simp only [Act.put, List.getElem_toArray, List.getElem_cons_zero, List.getElem_cons_succ, List.setIfInBounds_toArray, List.set_cons_zero, List.set_cons_succ])
        (refine wpAnyH_take (i := 13) (oi := _) (v := ?_) rfl (by kernel_rfl) (by kernel_rfl) (by kernel_rfl) (fun _ _ _ h => h) (Or.inl ⟨?_, ?_⟩) (by assumption) ?_; rotate_left; (focus (first | rfl | (simp [Region.wanted, yielded]; done))); (focus (intro w hSw; (try dsimp only at hSw); go_simp; all_goals (with_reducible rfl))); try simp only [Act.put, List.getElem_toArray, List.getElem_cons_zero, List.getElem_cons_succ, List.setIfInBounds_toArray, List.set_cons_zero, List.set_cons_succ])
        (refine wpAnyH_take (i := 14) (oi := _) (v := ?_) rfl (by kernel_rfl) (by kernel_rfl) (by kernel_rfl) (fun _ _ _ h => h) (Or.inl ⟨?_, ?_⟩) (by assumption) ?_; rotate_left; (focus (first | rfl | (simp [Region.wanted, yielded]; done))); (focus (intro w hSw; (try dsimp only at hSw); go_simp; all_goals (with_reducible rfl))); try simp only [Act.put, List.getElem_toArray, List.getElem_cons_zero, List.getElem_cons_succ, List.setIfInBounds_toArray, List.set_cons_zero, List.set_cons_succ])
        have O5 := Lib.hid hHeld
        (refine wpAnyH_done (by kernel_rfl) ?_ _; refine NoPanic.normal ?_)
        clear hHeld b3 b4 b5
        have k0 := K0 _ O5.out
        have k1 := K1 _ O5.out
        go_wp2_with fail
        refine (V1.out _ O5.out).mono ?_
        rintro e y6 ⟨rfl, bb⟩
        have O6 := Lib.hid (show OldB u2 _ from OldB.then O5.out bb)
        clear bb
        have k0 := K0 _ O6.out
        have k1 := K1 _ O6.out
        go_wp2_with fail
        refine (V2.out _ O6.out).mono ?_
        rintro e y7 ⟨rfl, bb⟩
        have O7 := Lib.hid (show OldB u2 _ from OldB.then O6.out bb)
        clear bb
        cases v2 with
        | false =>
          go_wp2_with fail
          go_ret
          exact ⟨rfl, BZ.out _ O7.out⟩
        | true =>
          have k0 := K0 _ O7.out
          have k1 := K1 _ O7.out
          go_wp2_with fail
          refine (SA.out _ O7.out).mono ?_
          rintro e y8 ⟨rfl, bb⟩
          have O8 := Lib.hid (show OldB u2 _ from OldB.then O7.out bb)
          clear bb
          go_wp2_with fail
          go_ret
          exact ⟨rfl, BZ.out _ O8.out⟩
      | false =>
        go_upto_region 5 with fail
        (refine wp_region_noPanic ?_; refine wp_region_held_drew (S := (OldB u2)) (by kernel_rfl) ?_ (fun hHeld => ?_); exact Below.drew O2.out)
        (refine wpAnyH_take (i := 0) (oi := _) (v := ?_) rfl (by kernel_rfl) (by kernel_rfl) (by kernel_rfl) (fun _ _ _ h => h) (Or.inl ⟨?_, ?_⟩) (by assumption) ?_; rotate_left; (focus (first | rfl | (simp [Region.wanted, yielded]; done))); (focus (intro w hSw; (try dsimp only at hSw); go_simp; all_goals (with_reducible rfl))); try simp only [Act.put, List.getElem_toArray, List.getElem_cons_zero, List.getElem_cons_succ, List.setIfInBounds_toArray, List.set_cons_zero, List.set_cons_succ])
        (refine wpAnyH_take (i := 2) (oi := _) (v := ?_) rfl (by kernel_rfl) (by kernel_rfl) (by kernel_rfl) (fun _ _ _ h => h) (Or.inl ⟨?_, ?_⟩) (by assumption) ?_; rotate_left; (focus (first | rfl | (simp [Region.wanted, yielded]; done))); (focus (intro w hSw; (try dsimp only at hSw); go_simp; all_goals (with_reducible rfl))); try simp only [Act.put, List.getElem_toArray, List.getElem_cons_zero, List.getElem_cons_succ, List.setIfInBounds_toArray, List.set_cons_zero, List.set_cons_succ])
        (refine wpAnyH_ready (rs := [1]) (by kernel_rfl) (by simp) ?_; refine AllReadyH.cons (o := _) rfl (fun K hK => ?_) AllReadyH.nil; go_simp)
        refine (IS.out _).mono ?_
        rintro e y3 ⟨rfl, b3⟩
        (refine hK.out _ _ (OldB.then hHeld b3) (fun hHeld2 => ?_); clear hK K hHeld; have hHeld := hHeld2; clear hHeld2; try simp only [Act.put, List.getElem_toArray, List.getElem_cons_zero, List.getElem_cons_succ, List.setIfInBounds_toArray, List.set_cons_zero, List.set_cons_succ])
        (refine wpAnyH_ready (rs := [3]) (by kernel_rfl) (by simp) ?_; refine AllReadyH.cons (o := _) rfl (fun K hK => ?_) AllReadyH.nil; go_simp)
        refine (V1.out _ hHeld).mono ?_
        rintro e y4 ⟨rfl, b4⟩
        (refine hK.out _ _ (OldB.then hHeld b4) (fun hHeld2 => ?_); clear hK K hHeld; have hHeld := hHeld2; clear hHeld2; try simp only [Act.put, List.getElem_toArray, List.getElem_cons_zero, List.getElem_cons_succ, List.setIfInBounds_toArray, List.set_cons_zero, List.set_cons_succ])
        (refine wpAnyH_take (i := 4) (oi := _) (v := ?_) rfl (by kernel_rfl) (by kernel_rfl) (by kernel_rfl) (fun _ _ _ h => h) (Or.inl ⟨?_, ?_⟩) (by assumption) ?_; rotate_left; (focus (first | rfl | (simp [Region.wanted, yielded]; done))); (focus (intro w hSw; (try dsimp only at hSw); go_simp; all_goals (with_reducible rfl))); try simp only [Act.put, List.getElem_toArray, List.getElem_cons_zero, List.getElem_cons_succ, List.setIfInBounds_toArray, List.set_cons_zero, List.set_cons_succ])
        (refine wpAnyH_take (i := 5) (oi := _) (v := ?_) rfl (by kernel_rfl) (by kernel_rfl) (by kernel_rfl) (fun _ _ _ h => h) (Or.inl ⟨?_, ?_⟩) (by assumption) ?_; rotate_left; (focus (first | rfl | (simp [Region.wanted, yielded]; done))); (focus (intro w hSw; (try dsimp only at hSw); go_simp; all_goals (with_reducible rfl))); try simp only [Act.put, List.getElem_toArray, List.getElem_cons_zero, List.getElem_cons_succ, List.setIfInBounds_toArray, List.set_cons_zero, List.set_cons_succ])
        (refine wpAnyH_take (i := 6) (oi := _) (v := ?_) rfl (by kernel_rfl) (by kernel_rfl) (by kernel_rfl) (fun _ _ _ h => h) (Or.inl ⟨?_, ?_⟩) (by assumption) ?_; rotate_left; (focus (first | rfl | (simp [Region.wanted, yielded]; done))); (focus (intro w hSw; (try dsimp only at hSw); go_simp; all_goals (with_reducible rfl))); try simp only [Act.put, List.getElem_toArray, List.getElem_cons_zero, List.getElem_cons_succ, List.setIfInBounds_toArray, List.set_cons_zero, List.set_cons_succ])
        (refine wpAnyH_take (i := 7) (oi := _) (v := ?_) rfl (by kernel_rfl) (by kernel_rfl) (by kernel_rfl) (fun _ _ _ h => h) (Or.inl ⟨?_, ?_⟩) (by assumption) ?_; rotate_left; (focus (first | rfl | (simp [Region.wanted, yielded]; done))); (focus (intro w hSw; (try dsimp only at hSw); go_simp; all_goals (with_reducible rfl))); try simp only [Act.put, List.getElem_toArray, List.getElem_cons_zero, List.getElem_cons_succ, List.setIfInBounds_toArray, List.set_cons_zero, List.set_cons_succ])
        (refine wpAnyH_ready (rs := [8]) (by kernel_rfl) (by simp) ?_; refine AllReadyH.cons (o := _) rfl (fun K hK => ?_) AllReadyH.nil; go_simp)
        refine (SA.out _ hHeld).mono ?_
        rintro e y5 ⟨rfl, b5⟩
        (refine hK.out _ _ (OldB.then hHeld b5) (fun hHeld2 => ?_); clear hK K hHeld; have hHeld := hHeld2; clear hHeld2; try simp only [Act.put, List.getElem_toArray, List.getElem_cons_zero, List.getElem_cons_succ, List.setIfInBounds_toArray, List.set_cons_zero, List.set_cons_succ])
        (refine wpAnyH_take (i := 9) (oi := _) (v := ?_) rfl (by kernel_rfl) (by kernel_rfl) (by kernel_rfl) (fun _ _ _ h => h) (Or.inl ⟨?_, ?_⟩) (by assumption) ?_; rotate_left; (focus (first | rfl | (simp [Region.wanted, yielded]; done))); (focus (intro w hSw; (try dsimp only at hSw); go_simp; all_goals (with_reducible rfl))); try simp only [Act.put, List.getElem_toArray, List.getElem_cons_zero, List.getElem_cons_succ, List.setIfInBounds_toArray, List.set_cons_zero, List.set_cons_succ])
        (refine wpAnyH_take (i := 10) (oi := _) (v := undef) rfl (by kernel_rfl) (by kernel_rfl) (by kernel_rfl) (fun _ _ _ h => h) (Or.inr ⟨?_, rfl⟩) (by assumption) ?_; (focus (first | (simp [Region.wanted, yielded]; done) | (simp [Region.wanted, yielded, undef]; done) | (simp [Region.wanted, yielded]; decide))); try simp only [Act.put, List.getElem_toArray, List.getElem_cons_zero, List.getElem_cons_succ, List.setIfInBounds_toArray, List.set_cons_zero, List.set_cons_succ])
        (refine wpAnyH_take (i := 11) (oi := _) (v := undef) rfl (by kernel_rfl) (by kernel_rfl) (by kernel_rfl) (fun _ _ _ h => h) (Or.inr ⟨?_, rfl⟩) (by assumption) ?_; (focus (first | (simp [Region.wanted, yielded]; done) | (simp [Region.wanted, yielded, undef]; done) | (simp [Region.wanted, yielded]; decide))); try simp only [Act.put, List.getElem_toArray, List.getElem_cons_zero, List.getElem_cons_succ, List.setIfInBounds_toArray, List.set_cons_zero, List.set_cons_succ])
        (refine wpAnyH_take (i := 12) (oi := _) (v := undef) rfl (by kernel_rfl) (by kernel_rfl) (by kernel_rfl) (fun _ _ _ h => h) (Or.inr ⟨?_, rfl⟩) (by assumption) ?_; (focus (first | (simp [Region.wanted, yielded]; done) | (simp [Region.wanted, yielded, undef]; done) | (simp [Region.wanted, yielded]; decide))); try simp only [Act.put, List.getElem_toArray, List.getElem_cons_zero, List.getElem_cons_succ, List.setIfInBounds_toArray, List.set_cons_zero, List.set_cons_succ])
        (refine wpAnyH_take (i := 13) (oi := _) (v := ?_) rfl (by kernel_rfl) (by kernel_rfl) (by kernel_rfl) (fun _ _ _ h => h) (Or.inl ⟨?_, ?_⟩) (by assumption) ?_; rotate_left; (focus (first | rfl | (simp [Region.wanted, yielded]; done))); (focus (intro w hSw; (try dsimp only at hSw); go_simp; all_goals (with_reducible rfl))); try simp only [Act.put, List.getElem_toArray, List.getElem_cons_zero, List.getElem_cons_succ, List.setIfInBounds_toArray, List.set_cons_zero, List.set_cons_succ])
        (refine wpAnyH_take (i := 14) (oi := _) (v := ?_) rfl (by kernel_rfl) (by kernel_rfl) (by kernel_rfl) (fun _ _ _ h => h) (Or.inl ⟨?_, ?_⟩) (by assumption) ?_; rotate_left; (focus (first | rfl | (simp [Region.wanted, yielded]; done))); (focus (intro w hSw; (try dsimp only at hSw); go_simp; all_goals (with_reducible rfl))); try simp only [Act.put, List.getElem_toArray, List.getElem_cons_zero, List.getElem_cons_succ, List.setIfInBounds_toArray, List.set_cons_zero, List.set_cons_succ])
        have O5 := Lib.hid hHeld
        (refine wpAnyH_done (by kernel_rfl) ?_ _; refine NoPanic.normal ?_)
        clear hHeld b3 b4 b5
        have k0 := K0 _ O5.out
        have k1 := K1 _ O5.out
        go_wp2_with fail
        refine (V1.out _ O5.out).mono ?_
        rintro e y6 ⟨rfl, bb⟩
        have O6 := Lib.hid (show OldB u2 _ from OldB.then O5.out bb)
        clear bb
        have k0 := K0 _ O6.out
        have k1 := K1 _ O6.out
        go_wp2_with fail
        refine (V2.out _ O6.out).mono ?_
        rintro e y7 ⟨rfl, bb⟩
        have O7 := Lib.hid (show OldB u2 _ from OldB.then O6.out bb)
        clear bb
        cases v2 with
        | false =>
          go_wp2_with fail
          go_ret
          exact ⟨rfl, BZ.out _ O7.out⟩
        | true =>
          have k0 := K0 _ O7.out
          have k1 := K1 _ O7.out
          go_wp2_with fail
          refine (SA.out _ O7.out).mono ?_
          rintro e y8 ⟨rfl, bb⟩
          have O8 := Lib.hid (show OldB u2 _ from OldB.then O7.out bb)
          clear bb
          by_cases e : X = Y
          · have exy : (X == Y) = true := EXY.out e
            obtain ⟨p1, p2⟩ := LAW.out (by trivial) (by trivial) (by trivial) e
            have P1 := Lib.hid p1
            have P2 := Lib.hid p2
            have FA1 := Lib.hid (FA.out (by trivial))
            have FB1 := Lib.hid (FB.out (by trivial))
            clear e p1 p2 LAW FA FB SE EXY V1 V2 SA IS
            go_upto_region 9 with fail
            clear exy k0 k1
            generalize (cts l).map digestF = LA at *
            generalize (cts l').map digestF = LB at *
            (refine wp_region_noPanic ?_; refine wp_region_held_drew (S := (OldB u2)) (by kernel_rfl) ?_ (fun hHeld => ?_); exact Below.drew O8.out)
            (refine wpAnyH_take (i := 0) (oi := _) (v := ?_) rfl (by kernel_rfl) (by kernel_rfl) (by kernel_rfl) (fun _ _ _ h => h) (Or.inl ⟨?_, ?_⟩) (by assumption) ?_; rotate_left; (focus (first | rfl | (simp [Region.wanted, yielded]; done))); (focus (intro w hSw; (try dsimp only at hSw); go_simp; all_goals (with_reducible rfl))); try simp only [Act.put, List.getElem_toArray, List.getElem_cons_zero, List.getElem_cons_succ, List.setIfInBounds_toArray, List.set_cons_zero, List.set_cons_succ])
            (refine wpAnyH_take (i := 2) (oi := _) (v := ?_) rfl (by kernel_rfl) (by kernel_rfl) (by kernel_rfl) (fun _ _ _ h => h) (Or.inl ⟨?_, ?_⟩) (by assumption) ?_; rotate_left; (focus (first | rfl | (simp [Region.wanted, yielded]; done))); (focus (intro w hSw; (try dsimp only at hSw); go_simp; all_goals (with_reducible rfl))); try simp only [Act.put, List.getElem_toArray, List.getElem_cons_zero, List.getElem_cons_succ, List.setIfInBounds_toArray, List.set_cons_zero, List.set_cons_succ])
            (refine wpAnyH_ready (rs := [1]) (by kernel_rfl) (by simp) ?_; refine AllReadyH.cons (o := _) rfl (fun K hK => ?_) AllReadyH.nil; go_simp)
            refine (G1.out _ hHeld).mono ?_
            rintro e y9 ⟨A5, c5, rfl, r5, b5⟩
            (refine hK.out _ _ (OldB.then hHeld b5) (fun hHeld2 => ?_); clear hK K hHeld; have hHeld := hHeld2; clear hHeld2; try simp only [Act.put, List.getElem_toArray, List.getElem_cons_zero, List.getElem_cons_succ, List.setIfInBounds_toArray, List.set_cons_zero, List.set_cons_succ])
            (refine wpAnyH_ready (rs := [3]) (by kernel_rfl) (by simp) ?_; refine AllReadyH.cons (o := _) rfl (fun K hK => ?_) AllReadyH.nil; go_simp)
            refine (G2.out _ hHeld).mono ?_
            rintro e ya ⟨A6, c6, rfl, r6, b6⟩
            (refine hK.out _ _ (OldB.then hHeld b6) (fun hHeld2 => ?_); clear hK K hHeld; have hHeld := hHeld2; clear hHeld2; try simp only [Act.put, List.getElem_toArray, List.getElem_cons_zero, List.getElem_cons_succ, List.setIfInBounds_toArray, List.set_cons_zero, List.set_cons_succ])
            (refine wpAnyH_take (i := 4) (oi := _) (v := ?_) rfl (by kernel_rfl) (by kernel_rfl) (by kernel_rfl) (fun _ _ _ h => h) (Or.inl ⟨?_, ?_⟩) (by assumption) ?_; rotate_left; (focus (first | rfl | (simp [Region.wanted, yielded]; done))); (focus (intro w hSw; (try dsimp only at hSw); go_simp; all_goals (with_reducible rfl))); try simp only [Act.put, List.getElem_toArray, List.getElem_cons_zero, List.getElem_cons_succ, List.setIfInBounds_toArray, List.set_cons_zero, List.set_cons_succ])
            (refine wpAnyH_take (i := 5) (oi := _) (v := ?_) rfl (by kernel_rfl) (by kernel_rfl) (by kernel_rfl) (fun _ _ _ h => h) (Or.inl ⟨?_, ?_⟩) (by assumption) ?_; rotate_left; (focus (first | rfl | (simp [Region.wanted, yielded]; done))); (focus (intro w hSw; (try dsimp only at hSw); go_simp; all_goals (with_reducible rfl))); try simp only [Act.put, List.getElem_toArray, List.getElem_cons_zero, List.getElem_cons_succ, List.setIfInBounds_toArray, List.set_cons_zero, List.set_cons_succ])
            have OA := Lib.hid hHeld
            (refine wpAnyH_done (by kernel_rfl) ?_ _; refine NoPanic.normal ?_)
            have JA := Lib.hid (joinedT_any A5 LA.length c5 LA ya rfl SZ1.out.1 SZ1.out.2 (r5.below b6))
            have JB : Hid (∀ u, OldB ya u → Calls Tryz.prog 22 #[.slice A6 LB.length c6] u fun e w' => e = .returned (.string (mkB (Dg.joined LB))) ∧ Below u.heap.size u w') := Lib.hid (fun u hu => joinedT_any A6 LB.length c6 LB u rfl SZ2.out.1 SZ2.out.2 (r6.below hu))
            have ZA := joined_lenT SZ1.out.1 SZ1.out.2
            have ZB := joined_lenT SZ2.out.1 SZ2.out.2
            clear hHeld r5 r6 b5 b6 G1 G2 SZ1 SZ2
            generalize Dg.joined LA = ja at *
            generalize Dg.joined LB = jb at *
            go_wp2_with fail
            refine JA.out.mono ?_
            rintro e yb ⟨rfl, bb⟩
            have OB2 := Lib.hid (show OldB u2 _ from OldB.then OA.out bb)
            have JB2 := Lib.hid (JB.out _ bb)
            clear bb JA JB
            go_wp2_with fail
            refine JB2.out.mono ?_
            rintro e yc ⟨rfl, bb⟩
            have OC := Lib.hid (show OldB u2 _ from OldB.then OB2.out bb)
            clear bb JB2
            have tja := mkB_tl ja
            have tjb := mkB_tl jb
            by_cases e2 : ja = jb
            · have ejj : (ja == jb) = true := by rw [e2]; simp
              obtain ⟨hnm, hex⟩ := P2.out e2
              have HEX := Lib.hid hex
              subst hnm
              clear e2 hex P1 P2 ZA ZB
              go_wp2_with fail
              clear ejj tja tjb
              go_loopw [12] (fun s12 wr => ∃ k : Nat, k ≤ n ∧ s12 = .int .i64 (k : Int) ∧ Hid (∀ i (h1 : i < l.length) (h2 : i < l'.length), i < k → ¬ (Dg.joined (fieldsL l[i].c) ≠ Dg.joined (fieldsL l'[i].c) ∧ Dg.sumL (Dg.joined (fieldsL l[i].c)) = Dg.sumL (Dg.joined (fieldsL l'[i].c)))) ∧ Hid (OldB u2 wr)) (fun i _ => n - (intOf i).toNat)
              case atStart => exact ⟨0, Nat.zero_le _, rfl, Lib.hid (fun i _ _ h => absurd h (Nat.not_lt_zero _)), OC⟩
              case round =>
                clear OC OB2 OA
                obtain ⟨k, hk, rfl, INV, OW⟩ := hrel
                have k0 := K0 _ OW.out
                have k1 := K1 _ OW.out
                by_cases hlt : k < n
                · have hkl : k < l.length := by rw [← HN.out]; exact hlt
                  have hkm : k < l'.length := by rw [← HN2.out]; exact hlt
                  have d1 : (k : Int) < (n : Int) := by omega
                  have d2 : (0 : Int) ≤ (k : Int) := by omega
                  have k8 : IntKind.i64.wrap ((k : Int) + 1) = (k : Int) + 1 := IntWalk.i64_in _ (by omega)
                  obtain ⟨ba, oa, a1, a2, q1, q2, rfl, va1, va2, hca⟩ := obj_at (MA.out u2 (Below.refl _ _)) hkl
                  obtain ⟨bb, ob, b1, b2, q3, q4, rfl, vb1, vb2, hcb⟩ := obj_at (MB.out u2 (Below.refl _ _)) hkm
                  have FC := FA1.out k hkl
                  have FD := FB1.out k hkm
                  have NX : Hid (¬ (Dg.joined (fieldsL l[k].c) ≠ Dg.joined (fieldsL l'[k].c) ∧ Dg.sumL (Dg.joined (fieldsL l[k].c)) = Dg.sumL (Dg.joined (fieldsL l'[k].c))) → ∀ i (h1 : i < l.length) (h2 : i < l'.length), i < k + 1 → ¬ (Dg.joined (fieldsL l[i].c) ≠ Dg.joined (fieldsL l'[i].c) ∧ Dg.sumL (Dg.joined (fieldsL l[i].c)) = Dg.sumL (Dg.joined (fieldsL l'[i].c)))) := Lib.hid (fun hc i h1 h2 hik => by
                    rcases Nat.lt_succ_iff_lt_or_eq.1 hik with h3 | h3
                    · exact INV.out i h1 h2 h3
                    · subst h3; exact hc)
                  unfold roA at FC FD
                  rw [va1, va2] at FC
                  rw [vb1, vb2] at FD
                  have FC := Lib.hid FC
                  have FD := Lib.hid FD
                  have HCA := Lib.hid hca
                  have HCB := Lib.hid hcb
                  clear hca hcb va1 va2 vb1 vb2
                  generalize l[k].c = oa1 at *
                  generalize l'[k].c = ob1 at *
                  generalize fieldsL oa1 = fa at *
                  generalize fieldsL ob1 = fb at *
                  go_upto_region 16 with fail
                  clear k0 k1
                  (refine wp_region_noPanic ?_; refine wp_region_held_drew (S := (OldB u2)) (by kernel_rfl) ?_ (fun hHeld => ?_); exact Below.drew OW.out)
                  (refine wpAnyH_take (i := 0) (oi := _) (v := ?_) rfl (by kernel_rfl) (by kernel_rfl) (by kernel_rfl) (fun _ _ _ h => h) (Or.inl ⟨?_, ?_⟩) (by assumption) ?_; rotate_left; (focus (first | rfl | (simp [Region.wanted, yielded]; done))); (focus (intro w hSw; (try dsimp only at hSw); go_simp; all_goals (with_reducible rfl))); try simp only [Act.put, List.getElem_toArray, List.getElem_cons_zero, List.getElem_cons_succ, List.setIfInBounds_toArray, List.set_cons_zero, List.set_cons_succ])
                  (refine wpAnyH_take (i := 1) (oi := _) (v := ?_) rfl (by kernel_rfl) (by kernel_rfl) (by kernel_rfl) (fun _ _ _ h => h) (Or.inl ⟨?_, ?_⟩) (by assumption) ?_; rotate_left; (focus (first | rfl | (simp [Region.wanted, yielded]; done))); (focus (intro w hSw; (try dsimp only at hSw); go_simp; all_goals (with_reducible rfl))); try simp only [Act.put, List.getElem_toArray, List.getElem_cons_zero, List.getElem_cons_succ, List.setIfInBounds_toArray, List.set_cons_zero, List.set_cons_succ])
                  (refine wpAnyH_take (i := 2) (oi := _) (v := ?_) rfl (by kernel_rfl) (by kernel_rfl) (by kernel_rfl) (fun _ _ _ h => h) (Or.inl ⟨?_, ?_⟩) (by assumption) ?_; rotate_left; (focus (first | rfl | (simp [Region.wanted, yielded]; done))); (focus (intro w hSw; (try dsimp only at hSw); go_simp; all_goals (with_reducible rfl))); try simp only [Act.put, List.getElem_toArray, List.getElem_cons_zero, List.getElem_cons_succ, List.setIfInBounds_toArray, List.set_cons_zero, List.set_cons_succ])
                  (refine wpAnyH_take (i := 3) (oi := _) (v := ?_) rfl (by kernel_rfl) (by kernel_rfl) (by kernel_rfl) (fun _ _ _ h => h) (Or.inl ⟨?_, ?_⟩) (by assumption) ?_; rotate_left; (focus (first | rfl | (simp [Region.wanted, yielded]; done))); (focus (intro w hSw; (try dsimp only at hSw); go_simp; all_goals (with_reducible rfl))); try simp only [Act.put, List.getElem_toArray, List.getElem_cons_zero, List.getElem_cons_succ, List.setIfInBounds_toArray, List.set_cons_zero, List.set_cons_succ])
                  (refine wpAnyH_take (i := 7) (oi := _) (v := ?_) rfl (by kernel_rfl) (by kernel_rfl) (by kernel_rfl) (fun _ _ _ h => h) (Or.inl ⟨?_, ?_⟩) (by assumption) ?_; rotate_left; (focus (first | rfl | (simp [Region.wanted, yielded]; done))); (focus (intro w hSw; (try dsimp only at hSw); go_simp; all_goals (with_reducible rfl))); try simp only [Act.put, List.getElem_toArray, List.getElem_cons_zero, List.getElem_cons_succ, List.setIfInBounds_toArray, List.set_cons_zero, List.set_cons_succ])
                  (refine wpAnyH_take (i := 8) (oi := _) (v := ?_) rfl (by kernel_rfl) (by kernel_rfl) (by kernel_rfl) (fun _ _ _ h => h) (Or.inl ⟨?_, ?_⟩) (by assumption) ?_; rotate_left; (focus (first | rfl | (simp [Region.wanted, yielded]; done))); (focus (intro w hSw; (try dsimp only at hSw); go_simp; all_goals (with_reducible rfl))); try simp only [Act.put, List.getElem_toArray, List.getElem_cons_zero, List.getElem_cons_succ, List.setIfInBounds_toArray, List.set_cons_zero, List.set_cons_succ])
                  (refine wpAnyH_take (i := 9) (oi := _) (v := ?_) rfl (by kernel_rfl) (by kernel_rfl) (by kernel_rfl) (fun _ _ _ h => h) (Or.inl ⟨?_, ?_⟩) (by assumption) ?_; rotate_left; (focus (first | rfl | (simp [Region.wanted, yielded]; done))); (focus (intro w hSw; (try dsimp only at hSw); go_simp; all_goals (with_reducible rfl))); try simp only [Act.put, List.getElem_toArray, List.getElem_cons_zero, List.getElem_cons_succ, List.setIfInBounds_toArray, List.set_cons_zero, List.set_cons_succ])
                  (refine wpAnyH_take (i := 10) (oi := _) (v := ?_) rfl (by kernel_rfl) (by kernel_rfl) (by kernel_rfl) (fun _ _ _ h => h) (Or.inl ⟨?_, ?_⟩) (by assumption) ?_; rotate_left; (focus (first | rfl | (simp [Region.wanted, yielded]; done))); (focus (intro w hSw; (try dsimp only at hSw); go_simp; all_goals (with_reducible rfl))); try simp only [Act.put, List.getElem_toArray, List.getElem_cons_zero, List.getElem_cons_succ, List.setIfInBounds_toArray, List.set_cons_zero, List.set_cons_succ])
                  have f0 := fun u hu => HCA.out 0 _ rfl u hu
                  have f1 := fun u hu => HCA.out 1 _ rfl u hu
                  have f2 := fun u hu => HCA.out 2 _ rfl u hu
                  have f3 := fun u hu => HCA.out 3 _ rfl u hu
                  have f4 := fun u hu => HCA.out 4 _ rfl u hu
                  have f5 := fun u hu => HCA.out 5 _ rfl u hu
                  simp only [Nat.add_zero] at f0
                  (refine wpAnyH_take (i := 4) (oi := _) (v := ?_) rfl (by kernel_rfl) (by kernel_rfl) (by kernel_rfl) (fun _ _ _ h => h) (Or.inl ⟨?_, ?_⟩) (by assumption) ?_; rotate_left; (focus (first | rfl | (simp [Region.wanted, yielded]; done))); (focus (intro w hSw; (try dsimp only at hSw); go_simp; all_goals (with_reducible rfl))); try simp only [Act.put, List.getElem_toArray, List.getElem_cons_zero, List.getElem_cons_succ, List.setIfInBounds_toArray, List.set_cons_zero, List.set_cons_succ])
                  clear f0 f1 f2 f3 f4 f5
                  have f0 := fun u hu => HCB.out 0 _ rfl u hu
                  have f1 := fun u hu => HCB.out 1 _ rfl u hu
                  have f2 := fun u hu => HCB.out 2 _ rfl u hu
                  have f3 := fun u hu => HCB.out 3 _ rfl u hu
                  have f4 := fun u hu => HCB.out 4 _ rfl u hu
                  have f5 := fun u hu => HCB.out 5 _ rfl u hu
                  simp only [Nat.add_zero] at f0
                  (refine wpAnyH_take (i := 11) (oi := _) (v := ?_) rfl (by kernel_rfl) (by kernel_rfl) (by kernel_rfl) (fun _ _ _ h => h) (Or.inl ⟨?_, ?_⟩) (by assumption) ?_; rotate_left; (focus (first | rfl | (simp [Region.wanted, yielded]; done))); (focus (intro w hSw; (try dsimp only at hSw); go_simp; all_goals (with_reducible rfl))); try simp only [Act.put, List.getElem_toArray, List.getElem_cons_zero, List.getElem_cons_succ, List.setIfInBounds_toArray, List.set_cons_zero, List.set_cons_succ])
                  clear f0 f1 f2 f3 f4 f5
                  (refine wpAnyH_ready (rs := [5]) (by kernel_rfl) (by simp) ?_; refine AllReadyH.cons (o := _) rfl (fun K hK => ?_) AllReadyH.nil; go_simp)
                  refine ((FC.out _ hHeld).1).mono ?_
                  rintro e z1 ⟨A7, c7, rfl, r7, b7⟩
                  (refine hK.out _ _ (OldB.then hHeld b7) (fun hHeld2 => ?_); clear hK K hHeld; have hHeld := hHeld2; clear hHeld2; try simp only [Act.put, List.getElem_toArray, List.getElem_cons_zero, List.getElem_cons_succ, List.setIfInBounds_toArray, List.set_cons_zero, List.set_cons_succ])
                  (refine wpAnyH_ready (rs := [6]) (by kernel_rfl) (by simp) ?_; refine AllReadyH.cons (o := _) rfl (fun K hK => ?_) AllReadyH.nil; go_simp)
                  refine (joinedT_any A7 fa.length c7 fa z1 rfl (FC.out _ hHeld).2.1 (FC.out _ hHeld).2.2 r7).mono ?_
                  rintro e z2 ⟨rfl, b8⟩
                  (refine hK.out _ _ (OldB.then hHeld b8) (fun hHeld2 => ?_); clear hK K hHeld; have hHeld := hHeld2; clear hHeld2; try simp only [Act.put, List.getElem_toArray, List.getElem_cons_zero, List.getElem_cons_succ, List.setIfInBounds_toArray, List.set_cons_zero, List.set_cons_succ])
                  (refine wpAnyH_ready (rs := [12]) (by kernel_rfl) (by simp) ?_; refine AllReadyH.cons (o := _) rfl (fun K hK => ?_) AllReadyH.nil; go_simp)
                  refine ((FD.out _ hHeld).1).mono ?_
                  rintro e z3 ⟨A8, c8, rfl, r8, b9⟩
                  (refine hK.out _ _ (OldB.then hHeld b9) (fun hHeld2 => ?_); clear hK K hHeld; have hHeld := hHeld2; clear hHeld2; try simp only [Act.put, List.getElem_toArray, List.getElem_cons_zero, List.getElem_cons_succ, List.setIfInBounds_toArray, List.set_cons_zero, List.set_cons_succ])
                  (refine wpAnyH_ready (rs := [13]) (by kernel_rfl) (by simp) ?_; refine AllReadyH.cons (o := _) rfl (fun K hK => ?_) AllReadyH.nil; go_simp)
                  refine (joinedT_any A8 fb.length c8 fb z3 rfl (FD.out _ hHeld).2.1 (FD.out _ hHeld).2.2 r8).mono ?_
                  rintro e z4 ⟨rfl, b10⟩
                  (refine hK.out _ _ (OldB.then hHeld b10) (fun hHeld2 => ?_); clear hK K hHeld; have hHeld := hHeld2; clear hHeld2; try simp only [Act.put, List.getElem_toArray, List.getElem_cons_zero, List.getElem_cons_succ, List.setIfInBounds_toArray, List.set_cons_zero, List.set_cons_succ])
                  (refine wpAnyH_take (i := 14) (oi := _) (v := ?_) rfl (by kernel_rfl) (by kernel_rfl) (by kernel_rfl) (fun _ _ _ h => h) (Or.inl ⟨?_, ?_⟩) (by assumption) ?_; rotate_left; (focus (first | rfl | (simp [Region.wanted, yielded]; done))); (focus (intro w hSw; (try dsimp only at hSw); go_simp; all_goals (with_reducible rfl))); try simp only [Act.put, List.getElem_toArray, List.getElem_cons_zero, List.getElem_cons_succ, List.setIfInBounds_toArray, List.set_cons_zero, List.set_cons_succ])
                  (refine wpAnyH_take (i := 15) (oi := _) (v := ?_) rfl (by kernel_rfl) (by kernel_rfl) (by kernel_rfl) (fun _ _ _ h => h) (Or.inl ⟨?_, ?_⟩) (by assumption) ?_; rotate_left; (focus (first | rfl | (simp [Region.wanted, yielded]; done))); (focus (intro w hSw; (try dsimp only at hSw); go_simp; all_goals (with_reducible rfl))); try simp only [Act.put, List.getElem_toArray, List.getElem_cons_zero, List.getElem_cons_succ, List.setIfInBounds_toArray, List.set_cons_zero, List.set_cons_succ])
                  have OZ := Lib.hid hHeld
                  have zfa := joined_lenT (FC.out _ hHeld).2.1 (FC.out _ hHeld).2.2
                  have zfb := joined_lenT (FD.out _ hHeld).2.1 (FD.out _ hHeld).2.2
                  (refine wpAnyH_done (by kernel_rfl) ?_ _; refine NoPanic.normal ?_)
                  clear hHeld r7 r8 b7 b8 b9 b10 FC FD INV OW HCA HCB HEX
                  generalize Dg.joined fa = ju at *
                  generalize Dg.joined fb = jv at *
                  have tu := mkB_tl ju
                  have tv := mkB_tl jv
                  by_cases eu : ju = jv
                  · have euv : (ju == jv) = true := by rw [eu]; simp
                    have NX2 := Lib.hid (NX.out (fun h => h.1 eu))
                    clear eu NX
                    go_wp2_with fail
                    exact ⟨⟨k + 1, by omega, by go_num, NX2, OZ⟩, by simp [intOf]; omega⟩
                  · have euv : (ju == jv) = false := by simpa using eu
                    have SU := Lib.hid (fun u => sumTx_any ju u (by omega))
                    have SV := Lib.hid (fun u => sumTx_any jv u (by omega))
                    clear eu zfa zfb
                    generalize hsu : Dg.sumL ju = su at *
                    generalize hsv : Dg.sumL jv = sv at *
                    have tsu := mkB_tl su
                    have tsv := mkB_tl sv
                    go_wp2_with fail
                    refine (SU.out _).mono ?_
                    rintro e z5 ⟨rfl, b5⟩
                    have O5 := Lib.hid (show OldB u2 _ from OldB.then OZ.out b5)
                    clear b5
                    go_wp2_with fail
                    refine (SV.out _).mono ?_
                    rintro e z6 ⟨rfl, b6⟩
                    have O6 := Lib.hid (show OldB u2 _ from OldB.then O5.out b6)
                    clear b6 hsu hsv
                    by_cases es : su = sv
                    · have ess : (su == sv) = true := by rw [es]; simp
                      clear es
                      go_wp2_with fail
                      go_ret
                      exact ⟨rfl, BZ.out _ O6.out⟩
                    · have ess : (su == sv) = false := by simpa using es
                      have NX2 := Lib.hid (NX.out (fun h => es h.2))
                      clear es NX
                      go_wp2_with fail
                      exact ⟨⟨k + 1, by omega, by go_num, NX2, O6⟩, by simp [intOf]; omega⟩
                · exfalso
                  obtain ⟨i, h1, h2, h3, h4⟩ := HEX.out
                  exact INV.out i h1 h2 (by have := HN.out; omega) ⟨h3, h4⟩
            · have ejj : (ja == jb) = false := by simpa using e2
              have es : (Dg.sumL ja == Dg.sumL jb) = true := by rw [P1.out e2]; simp
              have SU := Lib.hid (fun u => sumTx_any ja u (by omega))
              have SV := Lib.hid (fun u => sumTx_any jb u (by omega))
              clear e2 P1 P2 ZA ZB
              generalize Dg.sumL ja = su at *
              generalize Dg.sumL jb = sv at *
              have tsu := mkB_tl su
              have tsv := mkB_tl sv
              go_wp2_with fail
              refine (SU.out _).mono ?_
              rintro e z5 ⟨rfl, b5⟩
              have O5 := Lib.hid (show OldB u2 _ from OldB.then OC.out b5)
              clear b5
              go_wp2_with fail
              refine (SV.out _).mono ?_
              rintro e z6 ⟨rfl, b6⟩
              have O6 := Lib.hid (show OldB u2 _ from OldB.then O5.out b6)
              clear b6
              go_wp2_with fail
              go_ret
              exact ⟨rfl, BZ.out _ O6.out⟩
          · have exy : (X == Y) = false := by simpa using e
            clear e
            go_wp2_with fail
            go_ret
            exact ⟨rfl, BZ.out _ O8.out⟩
end Go.Proofs.YtlejeelmlclnkaaGreatDoor
