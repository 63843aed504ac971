/- WALKS: the next level of a tree of keys (printed by gen_sd.py). -/
import Derived.Test.YthceonkdmcidcaaDoorSC
set_option linter.unusedSimpArgs false
set_option linter.unusedVariables false
namespace Go.Proofs.YthceonkdmcidcaaDoor
open Go.RowKit Go.Shelf
attribute [local go_sem] Oper.semAt_some
attribute [local go_sem ↓] Go.wp_at_zero Go.wp_at_succ

def nodeAt (L : List (List UInt8)) (j : Nat) : List UInt8 := Dg.sumL (Sl.nodeT (L.getD (2 * j) []) (L.getD (2 * j + 1) []))
theorem up_list {L : List (List UInt8)} {m : Nat} (hm : L.length = 2 * m) : Sl.up L = (List.range m).map (nodeAt L) := by
  refine List.ext_getElem (by rw [Sl.up_len, hm]; simp) fun j h1 h2 => ?_
  have hj : j < m := by simpa using h2
  have := (Sl.texts_get L j (by omega)).2
  rw [List.getD_eq_getElem?_getD, List.getElem?_eq_getElem h1] at this
  simpa [nodeAt] using this
theorem pre_snoc {L : List (List UInt8)} {m : Nat} (pre : List (Up m)) (x : Up m) : sv ((pre ++ [x]).map fun y => nodeAt L y.1) = sv (pre.map fun y => nodeAt L y.1) ++ [.string (mkB (nodeAt L x.1))] := by
  rw [List.map_append, sv_app]; rfl
theorem pre_all {L : List (List UInt8)} {m : Nat} (hm : L.length = 2 * m) {pre : List (Up m)} (h : pre.map (·.1) = List.range m) : (pre.map fun y => nodeAt L y.1) = Sl.up L := by
  rw [up_list hm, ← h, List.map_map]; rfl
theorem t23 : (9 : TypeId) ≠ 22 := by decide
theorem getD_at {L : List (List UInt8)} {i : Nat} (h : i < L.length) : (sv L)[i]? = some (.string (mkB (L.getD i []))) := by
  rw [sv_at h, List.getD_eq_getElem?_getD, List.getElem?_eq_getElem h]; rfl
def AbI (w : World) (B : Nat) (L : List (List UInt8)) (m : Nat) (pre : List (Up m)) (W : World) : Prop :=
  (∃ v, Boxed W B 22 v ∧ W.ownsRow (B + 3) 9 1 v pre.length (sv (pre.map fun y => nodeAt L y.1)) ∧ True) ∧ Below B w W ∧ B + 3 ≤ W.heap.size
theorem abI_own (w : World) (B : Nat) (L : List (List UInt8)) (m B' : Nat) (hB : B = w.heap.size) (hB' : B ≤ B') : OwnFrom B' (AbI w B L m) := by
  rintro s X Y row ⟨⟨v, hv, hr, -⟩, hb, hz⟩ hg hrow
  exact ⟨⟨v, blk_keptR hv hg (fun r e => (hrow r e).2), own_keptR hr hg (fun r e => (hrow r e).2), trivial⟩, hb.grown hg (by have := hb.size; omega) (fun k e => Nat.le_trans hB' (hrow k e).1), Nat.le_trans hz hg.size⟩
set_option maxRecDepth 100000 in
set_option maxHeartbeats 4000000 in
theorem above_any (A : Option Addr) (n c m : Nat) (L : List (List UInt8)) (w : World) (hn : n = L.length) (hm : L.length = 2 * m) (hm0 : 0 < m) (hm1 : m ≤ 1000) (hnc : n ≤ c) (hc : c ≤ 9223372036854775807) (hs : ∀ t ∈ L, t.length ≤ 300) (ht : Tab w) (h : Rd w A (sv L)) :
    Calls Tryd.prog 27 #[.slice A n c] w (SlPost w (Sl.up L)) := by
  subst hn
  have HT := Lib.hid ht; clear ht
  obtain ⟨b, off, rfl, hb, hcell⟩ := h (by rw [sv_len]; omega)
  have HC : Hid (∀ i, i < L.length → w.cell? ⟨b, off + i, none⟩ = some (.string (mkB (L.getD i [])))) := Lib.hid (fun i hi => hcell i _ (getD_at hi))
  have HS : Hid (∀ i, i < L.length → (L.getD i []).length ≤ 300) := Lib.hid (fun i hi => hs _ (by rw [List.getD_eq_getElem?_getD, List.getElem?_eq_getElem hi]; exact List.getElem_mem hi))
  clear hcell hs
  have HM := Lib.hid hm
  rw [hm] at hnc ⊢
  obtain ⟨B, hB⟩ : ∃ B, w.heap.size = B := ⟨_, rfl⟩
  have HW : Hid (w.heap.size = B) := Lib.hid hB
  obtain ⟨W0, hW0⟩ : ∃ W0, W0 = ((w.alloc (.cells #[.slice none 0 0] 22)).alloc (.cells #[.slice (some ⟨b, off, none⟩) (2 * m) c] 22)).alloc (.cells #[.int .i64 2] 3) := ⟨_, rfl⟩
  have z0 : W0.heap.size = B + 3 := by rw [hW0, ← hB]; simp
  have b0 : Hid (Boxed W0 B 22 (.slice none 0 0)) := Lib.hid (by rw [hW0, ← hB]; exact ((Boxed.new w _ _).alloc _).alloc _)
  have b1 : Hid (Boxed W0 (B + 1) 22 (.slice (some ⟨b, off, none⟩) (2 * m) c)) := Lib.hid (by
    rw [hW0, ← hB]
    have := (Boxed.new (w.alloc (.cells #[.slice none 0 0] 22)) 22 (.slice (some ⟨b, off, none⟩) (2 * m) c)).alloc (.cells #[.int .i64 2] 3)
    simpa using this)
  have b2 : Hid (Boxed W0 (B + 2) 3 (.int .i64 2)) := Lib.hid (by
    rw [hW0, ← hB]
    have := Boxed.new ((w.alloc (.cells #[.slice none 0 0] 22)).alloc (.cells #[.slice (some ⟨b, off, none⟩) (2 * m) c] 22)) 3 (.int .i64 2)
    simpa using this)
  have bel0 : Hid (Below B w W0) := Lib.hid (by rw [hW0, ← hB]; exact (((Below.refl _ _).alloc (Nat.le_refl _) _).alloc (by simp) _).alloc (by simp; omega) _)
  rw [hB] at hb
  clear hm
  (refine (callsIn_wide (n := 5)).1 ?_; refine callsIn_of_wp_marks Tryd.func27 rfl trivial ?_ rfl; simp only [Tryd.ntmps27, List.size_toArray, List.length_cons, List.length_nil, Nat.reduceAdd, Nat.reduceSub, Array.replicate_succ, Array.replicate_zero, List.push_toArray, List.append_toArray, List.nil_append, List.cons_append]; refine wpIn_wide.2 ?_)
  go_wp2_with fail
  refine (chunk_any (some ⟨b, off, none⟩) (2 * m) c _).mono ?_
  rintro e w1 ⟨rfl, hw1⟩
  have hw2 : w1 = W0 := by rw [hW0, ← hw1]
  subst hw2
  clear hw1 hW0
  simp only [World.size_alloc, hB]
  clear hB
  go_wp2_with fail
  refine (wpIn_wide (n := 4)).1 ?_
  refine wpIn_rangeFunc_ownF (F := Fence.wide) rfl (by decide) (gf := 71) (lb := #[.pointer (some ⟨B + 1, 0, none⟩), .pointer (some ⟨B + 1 + 1, 0, none⟩)]) rfl trivial (enters_of Tryd.func71 (by kernel_rfl) rfl)
    (chunk_stops m c b off (B + 1) (B + 2) (B + 3) B w1 hm0 hnc hc (by omega) (by omega) (by omega) (by omega) (by omega) b1.out.cell b2.out.cell) (fun h k => Kx.trans h k) (Kx.putObj (by omega)) (Below.refl _ _) (fun _ => rfl)
    (AbI w B L m) (fun _ _ _ => False) (abI_own w B L m _ HW.out.symm (by omega)) (fun _ _ _ _ _ h _ _ => h)
    ⟨⟨_, b0.out, World.ownsRow_nil _ _ _ _, trivial⟩, bel0.out, by omega⟩
    (fun x => { tmps := #[.slice (some ⟨b, off, none⟩) (2 * m) c, undef, .slice none 0 0, .pointer (some ⟨B, 0, none⟩), .slice (some ⟨b, off + 2 * x.1, none⟩) 2 2, .slice (some ⟨b, off, none⟩) (2 * m) c, .func (.func 71) #[] #[.pointer (some ⟨B + 1, 0, none⟩), .pointer (some ⟨B + 1 + 1, 0, none⟩)], .slice (some ⟨b, off + 2 * x.1, none⟩) 2 2, undef, undef, undef, undef, undef, undef, undef, undef, undef, undef, undef], defers := [] }) ?assign ?body ?done ?stop
  case assign =>
    intro l x W K hK
    gi_wp2
    exact hK
  case body =>
    rintro l pre x W ⟨⟨v, hbx, hown, -⟩, hbel, hB3⟩ hlen
    have hxm := x.2
    have ea := HC.out (2 * x.1) (by have := HM.out; omega)
    have eb := HC.out (2 * x.1 + 1) (by have := HM.out; omega)
    have la := HS.out (2 * x.1) (by have := HM.out; omega)
    have lb := HS.out (2 * x.1 + 1) (by have := HM.out; omega)
    have NA : Hid (nodeAt L x.1 = Dg.sumL (Sl.nodeT (L.getD (2 * x.1) []) (L.getD (2 * x.1 + 1) []))) := Lib.hid rfl
    have PS := Lib.hid (pre_snoc (L := L) pre x)
    generalize L.getD (2 * x.1) [] = ta at *
    generalize L.getD (2 * x.1 + 1) [] = tb at *
    have C0 : ∀ w', Below B w w' → w'.cell? ⟨b, off + 2 * x.1, none⟩ = some (.string (mkB ta)) := fun w' h => (h.cell (p := ⟨b, off + 2 * x.1, none⟩) hb).trans ea
    have C1 : ∀ w', Below B w w' → w'.cell? ⟨b, off + 2 * x.1 + 1, none⟩ = some (.string (mkB tb)) := fun w' h => (h.cell (p := ⟨b, off + 2 * x.1 + 1, none⟩) hb).trans (by rw [Nat.add_assoc]; exact eb)
    have NC : Hid (∀ u, Below B w u → Calls Tryd.prog 42 #[.string (mkB ta), .string (mkB tb), .bool false] u fun e w' => e = .returned (.string (mkB (nodeAt L x.1))) ∧ Below u.heap.size u w') := Lib.hid (fun u hu => by
      have := node_any (mkB ta) (mkB tb) false u (by rw [mkB_size]; exact la) (by rw [mkB_size]; exact lb) (HT.out.keep (HW.out ▸ hu))
      rw [mkB_list, mkB_list] at this
      rw [NA.out]; exact this)
    clear NA
    generalize nodeAt L x.1 = y at *
    have HOWN := Lib.hid hown
    have HBX := Lib.hid hbx
    have hc0 := hbx.cell
    clear ea eb la lb hown hbx
    obtain ⟨A5, c5, rfl, -, -⟩ := own_form HOWN.out
    have hBW : B ≤ W.heap.size := by omega
    have hlen2 : pre.length < 1000 := by omega
    refine wpIn_block ?_
    (refine round_held (fun w' => Below B w w') (by kernel_rfl) (fun h => (by obtain ⟨_, _, h⟩ := h; exact h)) (by kernel_rfl) ?_ (fun hHeld => ?_); exact hbel.drew)
    (refine wpAnyH_take (i := 1) (oi := _) (v := ?_) rfl (by kernel_rfl) (by kernel_rfl) (by kernel_rfl) (fun _ _ _ h => h) (Or.inl ⟨?_, ?_⟩) (by assumption) ?_; rotate_left; (focus (first | rfl | (simp [Region.wanted, yielded]; done))); (focus (intro w hSw; (try dsimp only at hSw); go_simp; all_goals (with_reducible rfl))); try simp only [Act.put, List.getElem_toArray, List.getElem_cons_zero, List.getElem_cons_succ, List.setIfInBounds_toArray, List.set_cons_zero, List.set_cons_succ])
    (refine wpAnyH_take (i := 2) (oi := _) (v := ?_) rfl (by kernel_rfl) (by kernel_rfl) (by kernel_rfl) (fun _ _ _ h => h) (Or.inl ⟨?_, ?_⟩) (by assumption) ?_; rotate_left; (focus (first | rfl | (simp [Region.wanted, yielded]; done))); (focus (intro w hSw; (try dsimp only at hSw); go_simp; all_goals (with_reducible rfl))); try simp only [Act.put, List.getElem_toArray, List.getElem_cons_zero, List.getElem_cons_succ, List.setIfInBounds_toArray, List.set_cons_zero, List.set_cons_succ])
    (refine wpAnyH_take (i := 3) (oi := _) (v := ?_) rfl (by kernel_rfl) (by kernel_rfl) (by kernel_rfl) (fun _ _ _ h => h) (Or.inl ⟨?_, ?_⟩) (by assumption) ?_; rotate_left; (focus (first | rfl | (simp [Region.wanted, yielded]; done))); (focus (intro w hSw; (try dsimp only at hSw); go_simp; all_goals (with_reducible rfl))); try simp only [Act.put, List.getElem_toArray, List.getElem_cons_zero, List.getElem_cons_succ, List.setIfInBounds_toArray, List.set_cons_zero, List.set_cons_succ])
    (refine wpAnyH_take (i := 4) (oi := _) (v := ?_) rfl (by kernel_rfl) (by kernel_rfl) (by kernel_rfl) (fun _ _ _ h => h) (Or.inl ⟨?_, ?_⟩) (by assumption) ?_; rotate_left; (focus (first | rfl | (simp [Region.wanted, yielded]; done))); (focus (intro w hSw; (try dsimp only at hSw); go_simp; all_goals (with_reducible rfl))); try simp only [Act.put, List.getElem_toArray, List.getElem_cons_zero, List.getElem_cons_succ, List.setIfInBounds_toArray, List.set_cons_zero, List.set_cons_succ])
    (refine wpAnyH_take (i := 5) (oi := _) (v := ?_) rfl (by kernel_rfl) (by kernel_rfl) (by kernel_rfl) (fun _ _ _ h => h) (Or.inl ⟨?_, ?_⟩) (by assumption) ?_; rotate_left; (focus (first | rfl | (simp [Region.wanted, yielded]; done))); (focus (intro w hSw; (try dsimp only at hSw); go_simp; all_goals (with_reducible rfl))); try simp only [Act.put, List.getElem_toArray, List.getElem_cons_zero, List.getElem_cons_succ, List.setIfInBounds_toArray, List.set_cons_zero, List.set_cons_succ])
    (refine wpAnyH_take (i := 6) (oi := _) (v := ?_) rfl (by kernel_rfl) (by kernel_rfl) (by kernel_rfl) (fun _ _ _ h => h) (Or.inl ⟨?_, ?_⟩) (by assumption) ?_; rotate_left; (focus (first | rfl | (simp [Region.wanted, yielded]; done))); (focus (intro w hSw; (try dsimp only at hSw); go_simp; all_goals (with_reducible rfl))); try simp only [Act.put, List.getElem_toArray, List.getElem_cons_zero, List.getElem_cons_succ, List.setIfInBounds_toArray, List.set_cons_zero, List.set_cons_succ])
    (refine wpAnyH_ready (rs := [0, 7]) (by kernel_rfl) (by simp) ?_; refine AllReadyH.cons (o := _) rfl (fun K hK => ?_) (AllReadyH.cons (o := _) rfl (fun K hK => ?_) AllReadyH.nil))
    · go_simp
      (refine hK.out _ _ hHeld (fun hHeld2 => ?_); clear hK K hHeld; have hHeld := hHeld2; clear hHeld2; try simp only [Act.put, List.getElem_toArray, List.getElem_cons_zero, List.getElem_cons_succ, List.setIfInBounds_toArray, List.set_cons_zero, List.set_cons_succ])
      (refine wpAnyH_ready (rs := [7]) (by kernel_rfl) (by simp) ?_; refine AllReadyH.cons (o := _) rfl (fun K hK => ?_) AllReadyH.nil; go_simp)
      refine (NC.out _ hHeld).mono ?_
      rintro e w2 ⟨rfl, hb2'⟩
      have hb2 := drew_below hb2'; clear hb2'
      have hsz2 := hb2.size
      have hBx2 := (hb2.block B (lt_of_block HBX.out)).trans HBX.out
      have hc2 : w2.cell? ⟨B, 0, none⟩ = some (.slice A5 pre.length c5) := cell_of_row w2 B 0 _ _ _ hBx2
      have hB2 : B < w2.heap.size := lt_of_block hBx2
      (refine hK.out _ _ (hbel.trans (hb2.mono hBW)) (fun hHeld2 => ?_); clear hK K hHeld; have hHeld := hHeld2; clear hHeld2; try simp only [Act.put, List.getElem_toArray, List.getElem_cons_zero, List.getElem_cons_succ, List.setIfInBounds_toArray, List.set_cons_zero, List.set_cons_succ])
      (refine wpAnyH_ready (rs := [8]) (by kernel_rfl) (by simp) ?_; refine AllReadyH.cons (o := _) rfl (fun K hK => ?_) AllReadyH.nil; go_simp)
      (refine hK.out _ _ (Below.alloc hHeld (Nat.le_trans hBW hsz2) _) (fun hHeld2 => ?_); clear hK K hHeld; have hHeld := hHeld2; clear hHeld2; try simp only [Act.put, List.getElem_toArray, List.getElem_cons_zero, List.getElem_cons_succ, List.setIfInBounds_toArray, List.set_cons_zero, List.set_cons_succ])
      (refine wpAnyH_ready (rs := [9]) (by kernel_rfl) (by simp) ?_; refine AllReadyH.cons (o := _) rfl (fun K hK => ?_) AllReadyH.nil)
      refine step_appB rfl (.tmp 8) (.tmp 16) 22 rfl Tryd.underlying22 info_str rfl (by decide) (B + 3) (.slice A5 pre.length c5) pre.length 1 _ w2 #[.string (mkB y)] rfl (by simp [Value.oneCell']) rfl rfl rfl (own_below HOWN.out hb2 (Nat.le_refl _)) (by omega) (by omega) (by omega) (by decide) ?_
      intro A6 c6 w6 hown6 hb6 hg6
      obtain ⟨d1, d2, d3⟩ := app_done HBX.out t23 HOWN.out hB3 hb2 hg6
      have hc6 : w6.cell? ⟨B, 0, none⟩ = some (.slice A5 pre.length c5) := cell_of_row w6 B 0 _ _ _ d1
      have hf6 := free_blk d1 0
      have D3 := Lib.hid (hbel.trans (d3.mono (Nat.le_add_right _ _)))
      (refine hK.out _ _ D3.out (fun hHeld2 => ?_); clear hK K hHeld; have hHeld := hHeld2; clear hHeld2; try simp only [Act.put, List.getElem_toArray, List.getElem_cons_zero, List.getElem_cons_succ, List.setIfInBounds_toArray, List.set_cons_zero, List.set_cons_succ])
      (refine wpAnyH_ready (rs := [10]) (by kernel_rfl) (by simp) ?_; refine AllReadyH.cons (o := _) rfl (fun K hK => ?_) AllReadyH.nil; go_simp)
      (refine hK.out _ _ (D3.out.setCell (by show B ≤ B; exact Nat.le_refl _) _) (fun hHeld2 => ?_); clear hK K hHeld; have hHeld := hHeld2; clear hHeld2; try simp only [Act.put, List.getElem_toArray, List.getElem_cons_zero, List.getElem_cons_succ, List.setIfInBounds_toArray, List.set_cons_zero, List.set_cons_succ])
      (refine wpAnyH_done (by kernel_rfl) ?_ _; refine NoPanic.normal ?_)
      clear hHeld
      refine ⟨d2.trans (KeepsOthers.setCell _ _ _), (Kx.of_below d3).set 0 _, ⟨⟨_, Boxed.set _ d1, ?_, trivial⟩, D3.out.setCell (by show B ≤ B; exact Nat.le_refl _) _, ?_⟩⟩
      · rw [PS.out, List.length_append]; exact own_set d1 t23 hown6 0 _
      · have := (KeepsWalks.setCell w6 ⟨B, 0, none⟩ (.slice A6 (pre.length + 1) c6)).size
        have := hb6.size
        omega
    · go_simp
      refine (NC.out _ hHeld).mono ?_
      rintro e w2 ⟨rfl, hb2'⟩
      have hb2 := drew_below hb2'; clear hb2'
      have hsz2 := hb2.size
      have hBx2 := (hb2.block B (lt_of_block HBX.out)).trans HBX.out
      have hc2 : w2.cell? ⟨B, 0, none⟩ = some (.slice A5 pre.length c5) := cell_of_row w2 B 0 _ _ _ hBx2
      have hB2 : B < w2.heap.size := lt_of_block hBx2
      (refine hK.out _ _ (hbel.trans (hb2.mono hBW)) (fun hHeld2 => ?_); clear hK K hHeld; have hHeld := hHeld2; clear hHeld2; try simp only [Act.put, List.getElem_toArray, List.getElem_cons_zero, List.getElem_cons_succ, List.setIfInBounds_toArray, List.set_cons_zero, List.set_cons_succ])
      (refine wpAnyH_ready (rs := [0, 8]) (by kernel_rfl) (by simp) ?_; refine AllReadyH.cons (o := _) rfl (fun K hK => ?_) (AllReadyH.cons (o := _) rfl (fun K hK => ?_) AllReadyH.nil))
      · go_simp
        (refine hK.out _ _ hHeld (fun hHeld2 => ?_); clear hK K hHeld; have hHeld := hHeld2; clear hHeld2; try simp only [Act.put, List.getElem_toArray, List.getElem_cons_zero, List.getElem_cons_succ, List.setIfInBounds_toArray, List.set_cons_zero, List.set_cons_succ])
        (refine wpAnyH_ready (rs := [8]) (by kernel_rfl) (by simp) ?_; refine AllReadyH.cons (o := _) rfl (fun K hK => ?_) AllReadyH.nil; go_simp)
        (refine hK.out _ _ (Below.alloc hHeld (Nat.le_trans hBW hsz2) _) (fun hHeld2 => ?_); clear hK K hHeld; have hHeld := hHeld2; clear hHeld2; try simp only [Act.put, List.getElem_toArray, List.getElem_cons_zero, List.getElem_cons_succ, List.setIfInBounds_toArray, List.set_cons_zero, List.set_cons_succ])
        (refine wpAnyH_ready (rs := [9]) (by kernel_rfl) (by simp) ?_; refine AllReadyH.cons (o := _) rfl (fun K hK => ?_) AllReadyH.nil)
        refine step_appB rfl (.tmp 8) (.tmp 16) 22 rfl Tryd.underlying22 info_str rfl (by decide) (B + 3) (.slice A5 pre.length c5) pre.length 1 _ w2 #[.string (mkB y)] rfl (by simp [Value.oneCell']) rfl rfl rfl (own_below HOWN.out hb2 (Nat.le_refl _)) (by omega) (by omega) (by omega) (by decide) ?_
        intro A6 c6 w6 hown6 hb6 hg6
        obtain ⟨d1, d2, d3⟩ := app_done HBX.out t23 HOWN.out hB3 hb2 hg6
        have hc6 : w6.cell? ⟨B, 0, none⟩ = some (.slice A5 pre.length c5) := cell_of_row w6 B 0 _ _ _ d1
        have hf6 := free_blk d1 0
        have D3 := Lib.hid (hbel.trans (d3.mono (Nat.le_add_right _ _)))
        (refine hK.out _ _ D3.out (fun hHeld2 => ?_); clear hK K hHeld; have hHeld := hHeld2; clear hHeld2; try simp only [Act.put, List.getElem_toArray, List.getElem_cons_zero, List.getElem_cons_succ, List.setIfInBounds_toArray, List.set_cons_zero, List.set_cons_succ])
        (refine wpAnyH_ready (rs := [10]) (by kernel_rfl) (by simp) ?_; refine AllReadyH.cons (o := _) rfl (fun K hK => ?_) AllReadyH.nil; go_simp)
        (refine hK.out _ _ (D3.out.setCell (by show B ≤ B; exact Nat.le_refl _) _) (fun hHeld2 => ?_); clear hK K hHeld; have hHeld := hHeld2; clear hHeld2; try simp only [Act.put, List.getElem_toArray, List.getElem_cons_zero, List.getElem_cons_succ, List.setIfInBounds_toArray, List.set_cons_zero, List.set_cons_succ])
        (refine wpAnyH_done (by kernel_rfl) ?_ _; refine NoPanic.normal ?_)
        clear hHeld
        refine ⟨d2.trans (KeepsOthers.setCell _ _ _), (Kx.of_below d3).set 0 _, ⟨⟨_, Boxed.set _ d1, ?_, trivial⟩, D3.out.setCell (by show B ≤ B; exact Nat.le_refl _) _, ?_⟩⟩
        · rw [PS.out, List.length_append]; exact own_set d1 t23 hown6 0 _
        · have := (KeepsWalks.setCell w6 ⟨B, 0, none⟩ (.slice A6 (pre.length + 1) c6)).size
          have := hb6.size
          omega
      · go_simp
        (refine hK.out _ _ (Below.alloc hHeld (Nat.le_trans hBW hsz2) _) (fun hHeld2 => ?_); clear hK K hHeld; have hHeld := hHeld2; clear hHeld2; try simp only [Act.put, List.getElem_toArray, List.getElem_cons_zero, List.getElem_cons_succ, List.setIfInBounds_toArray, List.set_cons_zero, List.set_cons_succ])
        (refine wpAnyH_ready (rs := [0]) (by kernel_rfl) (by simp) ?_; refine AllReadyH.cons (o := _) rfl (fun K hK => ?_) AllReadyH.nil; go_simp)
        (refine hK.out _ _ hHeld (fun hHeld2 => ?_); clear hK K hHeld; have hHeld := hHeld2; clear hHeld2; try simp only [Act.put, List.getElem_toArray, List.getElem_cons_zero, List.getElem_cons_succ, List.setIfInBounds_toArray, List.set_cons_zero, List.set_cons_succ])
        (refine wpAnyH_ready (rs := [9]) (by kernel_rfl) (by simp) ?_; refine AllReadyH.cons (o := _) rfl (fun K hK => ?_) AllReadyH.nil)
        refine step_appB rfl (.tmp 8) (.tmp 16) 22 rfl Tryd.underlying22 info_str rfl (by decide) (B + 3) (.slice A5 pre.length c5) pre.length 1 _ w2 #[.string (mkB y)] rfl (by simp [Value.oneCell']) rfl rfl rfl (own_below HOWN.out hb2 (Nat.le_refl _)) (by omega) (by omega) (by omega) (by decide) ?_
        intro A6 c6 w6 hown6 hb6 hg6
        obtain ⟨d1, d2, d3⟩ := app_done HBX.out t23 HOWN.out hB3 hb2 hg6
        have hc6 : w6.cell? ⟨B, 0, none⟩ = some (.slice A5 pre.length c5) := cell_of_row w6 B 0 _ _ _ d1
        have hf6 := free_blk d1 0
        have D3 := Lib.hid (hbel.trans (d3.mono (Nat.le_add_right _ _)))
        (refine hK.out _ _ D3.out (fun hHeld2 => ?_); clear hK K hHeld; have hHeld := hHeld2; clear hHeld2; try simp only [Act.put, List.getElem_toArray, List.getElem_cons_zero, List.getElem_cons_succ, List.setIfInBounds_toArray, List.set_cons_zero, List.set_cons_succ])
        (refine wpAnyH_ready (rs := [10]) (by kernel_rfl) (by simp) ?_; refine AllReadyH.cons (o := _) rfl (fun K hK => ?_) AllReadyH.nil; go_simp)
        (refine hK.out _ _ (D3.out.setCell (by show B ≤ B; exact Nat.le_refl _) _) (fun hHeld2 => ?_); clear hK K hHeld; have hHeld := hHeld2; clear hHeld2; try simp only [Act.put, List.getElem_toArray, List.getElem_cons_zero, List.getElem_cons_succ, List.setIfInBounds_toArray, List.set_cons_zero, List.set_cons_succ])
        (refine wpAnyH_done (by kernel_rfl) ?_ _; refine NoPanic.normal ?_)
        clear hHeld
        refine ⟨d2.trans (KeepsOthers.setCell _ _ _), (Kx.of_below d3).set 0 _, ⟨⟨_, Boxed.set _ d1, ?_, trivial⟩, D3.out.setCell (by show B ≤ B; exact Nat.le_refl _) _, ?_⟩⟩
        · rw [PS.out, List.length_append]; exact own_set d1 t23 hown6 0 _
        · have := (KeepsWalks.setCell w6 ⟨B, 0, none⟩ (.slice A6 (pre.length + 1) c6)).size
          have := hb6.size
          omega
  case done =>
    rintro D ys W hD hys ⟨⟨v, hbx, hown, -⟩, hbel, -⟩ hdef
    have hc0 := hbx.cell
    have PA := Lib.hid (pre_all HM.out hys)
    have PL := Lib.hid (congrArg List.length (pre_all HM.out hys))
    have HOWN := Lib.hid hown; have HBX := Lib.hid hbx; have HDEF := Lib.hid hdef
    clear hown hbx hdef hys
    obtain ⟨A5, c5, rfl, hc5, hc6⟩ := own_form HOWN.out
    have EL : ys.length = (Sl.up L).length := by have := PL.out; simpa using this
    have RD : Rd (W.putObj D (.deferred none)) A5 (sv (Sl.up L)) := by rw [← PA.out]; exact Rd.of_own (ownsRow_putObj HOWN.out _ HDEF.out rfl)
    have BL : Below w.heap.size w (W.putObj D (.deferred none)) := by rw [HW.out]; exact hbel.trans (belowK_b (w := w) (by have := HW.out; omega) W D _ _ (by have := HW.out; omega) HDEF.out rfl rfl)
    have EL2 := Lib.hid EL; have RD2 := Lib.hid RD; have BL2 := Lib.hid BL
    clear EL RD BL
    go_wp2_with fail
    refine ⟨by simp, .inl ⟨_, _, rfl, run_takeDeferred HDEF.out, ?_⟩⟩
    exact ⟨_, results_tmp rfl _ _ _, ⟨A5, c5, by rw [← EL2.out]; rfl, by rw [← EL2.out]; exact hc5, hc6, RD2.out, BL2.out, fun p hp => by have := (HOWN.out.lt p.block (by rw [hp]; simp [Value.ownBlock])).1; have := HW.out; omega⟩⟩
  case stop =>
    rintro D c pre W _ _ h _
    exact h.elim
end Go.Proofs.YthceonkdmcidcaaDoor
