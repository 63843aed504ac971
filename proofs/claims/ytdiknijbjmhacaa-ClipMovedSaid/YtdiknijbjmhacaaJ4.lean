/- WALKS: ClipMoved. -/
import Derived.Test.YtdiknijbjmhacaaJ4p
import Derived.Test.YtdiknijbjmhacaaJ1
import Derived.Deep.RegionHeld3
import Derived.Deep.DrawnRows
set_option linter.unusedSimpArgs false
set_option linter.unusedVariables false
namespace Go.Proofs.Ytdiknijbjmhacaa
open Go.RowKit
attribute [local go_sem ↓] Go.wp_at_zero Go.wp_at_succ

theorem mv_long (A : Option Addr) (n c : Nat) (x0 y0 x1 y1 mx my : Int) (w : World) (hn : 100 < n) :
    Calls Try.prog 9 #[.slice A n c, .agg #[.int .i64 x0, .int .i64 y0, .int .i64 x1, .int .i64 y1], .agg #[.int .i64 mx, .int .i64 my]] w fun e w' => e = .returned (.bool true) ∧ Below w.heap.size w w' := by
  have BB : Hid (Below w.heap.size w ((w.alloc (.cells #[.int .i64 x0, .int .i64 y0, .int .i64 x1, .int .i64 y1] 26)).alloc (.cells #[.int .i64 mx, .int .i64 my] 24))) := Lib.hid (((Below.refl _ _).alloc (Nat.le_refl _) _).alloc (by simp) _)
  have hd : decide ((100 : Int) < (n : Int)) = true := by simp; omega
  go_enter Try.func9, Try.ntmps9
  go_wp2_with fail
  refine (head_any _).mono ?_
  rintro e w1 ⟨rfl, hb1⟩
  have B1 := Lib.hid (BB.out.trans (hb1.mono BB.out.size)); clear hb1
  go_wp2
  go_ret
  exact ⟨rfl, B1.out⟩

/-- the two arguments by value, in blocks of their own -/
structure Two (w : World) (g h : Nat) (x0 y0 x1 y1 mx my : Int) : Prop where
  b : BoxAt w g ⟨x0, y0, x1, y1⟩
  p : w.heap[h]? = some (.cells #[.int .i64 mx, .int .i64 my] 24 (0, 0))
theorem Two.below {w w' : World} {g h : Nat} {x0 y0 x1 y1 mx my : Int} (t : Two w g h x0 y0 x1 y1 mx my) (hb : Below w.heap.size w w') : Two w' g h x0 y0 x1 y1 mx my :=
  ⟨t.b.below hb t.b.lt, (hb.block _ (lt_of_block t.p)).trans t.p⟩
theorem Two.c {w : World} {g h : Nat} {x0 y0 x1 y1 mx my : Int} (t : Two w g h x0 y0 x1 y1 mx my) : w.cell? ⟨g, 0, none⟩ = some (.int .i64 x0) ∧ w.cell? ⟨g, 1, none⟩ = some (.int .i64 y0) ∧ w.cell? ⟨g, 2, none⟩ = some (.int .i64 x1) ∧ w.cell? ⟨g, 3, none⟩ = some (.int .i64 y1) ∧ w.cell? ⟨h, 0, none⟩ = some (.int .i64 mx) ∧ w.cell? ⟨h, 1, none⟩ = some (.int .i64 my) :=
  ⟨t.b.c.1, t.b.c.2.1, t.b.c.2.2.1, t.b.c.2.2.2, (cell_two t.p).1, (cell_two t.p).2⟩

theorem line_mv (l : List Cl.Pt) (x0 y0 x1 y1 mx my : Int) (hl : l.length ≤ 100) (h1 : mvOk l (mx, my) = true) (h2 : mvOk [(x0, y0), (x1, y1)] (mx, my) = true) :
    ∀ Ai ci u, Rp u Ai (l.map (Cl.mvP (mx, my))) → Calls Try.prog 12 #[.slice Ai l.length ci, .agg #[.int .i64 (x0 + mx), .int .i64 (y0 + my), .int .i64 (x1 + mx), .int .i64 (y1 + my)]] u (PzPost u ((clipL l ⟨x0, y0, x1, y1⟩).map (List.map (Cl.mvP (mx, my))))) := by
  intro Ai ci u hu
  obtain ⟨_, _, e3, _⟩ := mvOk_of h1
  obtain ⟨_, _, f3, f4, _⟩ := box_mv h2
  have hc := clipL_mv h1 f3
  exact line_p Ai l.length ci (l.map (Cl.mvP (mx, my))) (x0 + mx) (y0 + my) (x1 + mx) (y1 + my) u _ (by rw [List.length_map]) (by omega) hu (wf_of (by unfold allNear at e3; rw [List.all_eq_true] at e3; exact e3)) f4 hc
theorem ring_mv (l : List Cl.Pt) (x0 y0 x1 y1 mx my : Int) (hl : l.length ≤ 100) (h1 : mvOk l (mx, my) = true) (h2 : mvOk [(x0, y0), (x1, y1)] (mx, my) = true) :
    ∀ Ai ci u, Rp u Ai (l.map (Cl.mvP (mx, my))) → Calls Try.prog 15 #[.slice Ai l.length ci, .agg #[.int .i64 (x0 + mx), .int .i64 (y0 + my), .int .i64 (x1 + mx), .int .i64 (y1 + my)]] u (PtsPost u ((clipR l ⟨x0, y0, x1, y1⟩).map (Cl.mvP (mx, my)))) := by
  intro Ai ci u hu
  obtain ⟨_, _, e3, _⟩ := mvOk_of h1
  obtain ⟨_, _, f3, f4, _⟩ := box_mv h2
  have hc := clipR_mv h1 f3
  exact ring_p Ai l.length ci (l.map (Cl.mvP (mx, my))) (x0 + mx) (y0 + my) (x1 + mx) (y1 + my) u _ (by rw [List.length_map]) (by omega) hu (wf_of (by unfold allNear at e3; rw [List.all_eq_true] at e3; exact e3)) f4 hc
set_option maxRecDepth 10000 in
set_option maxHeartbeats 8000000 in
theorem mv_short (A : Option Addr) (n c : Nat) (l : List Cl.Pt) (x0 y0 x1 y1 mx my : Int) (w : World) (hn : n = l.length) (hl : n ≤ 100) (h : Rp w A l) (hw : Wf l) (hb : Wf [(x0, y0), (x1, y1)]) :
    Calls Try.prog 9 #[.slice A n c, .agg #[.int .i64 x0, .int .i64 y0, .int .i64 x1, .int .i64 y1], .agg #[.int .i64 mx, .int .i64 my]] w fun e w' => e = .returned (.bool true) ∧ Below w.heap.size w w' := by
  have BB : Hid (Below w.heap.size w ((w.alloc (.cells #[.int .i64 x0, .int .i64 y0, .int .i64 x1, .int .i64 y1] 26)).alloc (.cells #[.int .i64 mx, .int .i64 my] 24))) := Lib.hid (((Below.refl _ _).alloc (Nat.le_refl _) _).alloc (by simp) _)
  have T0 : Hid (Two ((w.alloc (.cells #[.int .i64 x0, .int .i64 y0, .int .i64 x1, .int .i64 y1] 26)).alloc (.cells #[.int .i64 mx, .int .i64 my] 24)) w.heap.size (w.heap.size + 1) x0 y0 x1 y1 mx my) := Lib.hid ⟨(alloc_old _ _ (by simp)).trans (heap_alloc_new w _), alloc_new' _ _ _ (by simp)⟩
  have hd : decide ((100 : Int) < (n : Int)) = false := by simp; omega
  have MV : Hid (∀ u, Rp u A l → Calls Try.prog 18 #[.slice A n c, .agg #[.int .i64 mx, .int .i64 my]] u (MovedPost u l (mx, my))) := Lib.hid (fun u hu => moved_any A n c l mx my u hn (by omega) hu)
  have MB : Hid (∀ Ai u, Rp u Ai [(x0, y0), (x1, y1)] → Calls Try.prog 18 #[.slice Ai 2 2, .agg #[.int .i64 mx, .int .i64 my]] u (MovedPost u [(x0, y0), (x1, y1)] (mx, my))) := Lib.hid (fun Ai u hu => moved_any Ai 2 2 [(x0, y0), (x1, y1)] mx my u rfl (by omega) hu)
  have LIN : Hid (∀ u, Rp u A l → Calls Try.prog 12 #[.slice A n c, .agg #[.int .i64 x0, .int .i64 y0, .int .i64 x1, .int .i64 y1]] u (PzPost u (clipL l ⟨x0, y0, x1, y1⟩))) := Lib.hid (fun u hu => line_p A n c l x0 y0 x1 y1 u _ hn (by omega) hu hw hb rfl)
  have RIN : Hid (∀ u, Rp u A l → Calls Try.prog 15 #[.slice A n c, .agg #[.int .i64 x0, .int .i64 y0, .int .i64 x1, .int .i64 y1]] u (PtsPost u (clipR l ⟨x0, y0, x1, y1⟩))) := Lib.hid (fun u hu => ring_p A n c l x0 y0 x1 y1 u _ hn (by omega) hu hw hb rfl)
  have H := Lib.hid h; have HN := Lib.hid hn
  clear h hw hb hn
  go_enter Try.func9, Try.ntmps9
  go_wp2_with fail
  refine (head_any _).mono ?_
  rintro e w1 ⟨rfl, hb1⟩
  have B1 := Lib.hid (BB.out.trans (hb1.mono BB.out.size)); have T1 := Lib.hid (T0.out.below hb1); clear hb1 BB T0
  obtain ⟨q0, q1, q2, q3, p0, p1⟩ := T1.out.c
  go_wp2_with fail
  refine (MV.out _ (H.out.below B1.out)).mono ?_
  rintro e w2 ⟨A2, c2, rfl, rp2, hc2, hb2⟩
  have B2 := Lib.hid (B1.out.trans (hb2.mono B1.out.size)); have T2 := Lib.hid (T1.out.below hb2); clear hb2 B1 T1 MV q0 q1 q2 q3 p0 p1
  obtain ⟨q0, q1, q2, q3, p0, p1⟩ := T2.out.c
  have hz2 : w.heap.size + 1 < w2.heap.size := lt_of_block T2.out.p
  have hz3 : w.heap.size < w2.heap.size := lt_of_block T2.out.b
  have RPB : Hid (Rp (w2.alloc (.cells #[.int .i64 x0, .int .i64 y0, .int .i64 x1, .int .i64 y1] 24)) (some ⟨w2.heap.size, 0, none⟩) [(x0, y0), (x1, y1)]) := Lib.hid (rp_row (heap_alloc_new w2 _) rfl)
  have BA : Hid (Below w2.heap.size w2 (w2.alloc (.cells #[.int .i64 x0, .int .i64 y0, .int .i64 x1, .int .i64 y1] 24))) := Lib.hid ((Below.refl _ _).alloc (Nat.le_refl _) _)
  go_wp2_with fail
  refine (MB.out _ _ RPB.out).mono ?_
  rintro e w3 ⟨A3, c3, rfl, rp3, hc3, hb3⟩
  have B23 : Hid (Below w2.heap.size w2 w3) := Lib.hid (BA.out.trans (hb3.mono BA.out.size))
  have B3 : Hid (Below w.heap.size w w3) := Lib.hid (B2.out.trans (B23.out.mono B2.out.size))
  have T3 := Lib.hid (T2.out.below B23.out)
  have RP2 := Lib.hid (rp_below rp2 B23.out)
  have RP3 := Lib.hid rp3
  have HC2 := Lib.hid hc2; have HC3 := Lib.hid hc3
  clear q0 q1 q2 q3 p0 p1 hz2 hz3 RPB BA rp2 rp3 hb3 hc2 hc3 MB
  rcases hok1 : mvOk l (mx, my) with _ | _
  · go_wp2_with fail
    go_ret
    exact ⟨rfl, B3.out⟩
  · rcases hok2 : mvOk [(x0, y0), (x1, y1)] (mx, my) with _ | _
    · go_wp2_with fail
      go_ret
      exact ⟨rfl, B3.out⟩
    · obtain ⟨e1, e2, e3, e4⟩ := mvOk_of hok1
      obtain ⟨f1, f2, f3, f4, -⟩ := box_mv hok2
      rw [e1] at RP2 HC2 ⊢
      rw [f1] at RP3 HC3 ⊢
      have E2 := Lib.hid e2; have E3 := Lib.hid e3; have E4 := Lib.hid e4; have F2 := Lib.hid f2; have F3 := Lib.hid f3; have F4 := Lib.hid f4; have OK1 := Lib.hid hok1; have OK2 := Lib.hid hok2
      clear e1 e2 e3 e4 f1 f2 f3 f4 hok1 hok2
      have LIN2 := Lib.hid (line_mv l x0 y0 x1 y1 mx my (by have := HN.out; omega) OK1.out OK2.out)
      have RIN2 := Lib.hid (ring_mv l x0 y0 x1 y1 mx my (by have := HN.out; omega) OK1.out OK2.out)
      have LM : Hid ((l.map (Cl.mvP (mx, my))).length = n) := Lib.hid (by rw [List.length_map, HN.out])
      have GOODP : Hid (∀ x ∈ clipL l ⟨x0, y0, x1, y1⟩, mvOk x (mx, my) = true ∧ mvL x (mx, my) = x.map (Cl.mvP (mx, my))) := Lib.hid (fun x hx => part_mv F2.out (proper_box (clipL_good hx).2) F3.out (clipL_good hx).1.2.1)
      have GOODR : Hid (mvOk (clipR l ⟨x0, y0, x1, y1⟩) (mx, my) = true ∧ mvL (clipR l ⟨x0, y0, x1, y1⟩) (mx, my) = (clipR l ⟨x0, y0, x1, y1⟩).map (Cl.mvP (mx, my))) := Lib.hid (by
        rcases clipR_good l ⟨x0, y0, x1, y1⟩ with hz | ⟨hg, hz⟩
        · rw [hz]; exact ⟨rfl, rfl⟩
        · exact part_mv F2.out (proper_box hz) F3.out hg.2.1)
      have CL : (clipL l ⟨x0, y0, x1, y1⟩).length ≤ 100 := by have := (clipL_len l ⟨x0, y0, x1, y1⟩).2; have := HN.out; omega
      have CX : Hid (∀ x ∈ clipL l ⟨x0, y0, x1, y1⟩, x.length ≤ 200) := Lib.hid (fun x hx => by have := (clipL_len l ⟨x0, y0, x1, y1⟩).1 x hx; have := HN.out; omega)
      have CR : (clipR l ⟨x0, y0, x1, y1⟩).length ≤ 1600 := by have := ringLen l ⟨x0, y0, x1, y1⟩; have := HN.out; omega
      clear OK1 OK2 E2 E3 E4 F2 F3 F4
      generalize clipL l ⟨x0, y0, x1, y1⟩ = ps at *
      generalize clipR l ⟨x0, y0, x1, y1⟩ = rr at *
      obtain ⟨b3, off3, e', hb3, u0, u1⟩ := RP3.out.at_ (k := 0) (by simp)
      obtain ⟨b3', off3', e'', _, u2, u3⟩ := RP3.out.at_ (k := 1) (by simp)
      subst e'
      cases e''
      simp only [List.getElem_cons_zero, List.getElem_cons_succ, Nat.zero_mul, Nat.one_mul, Nat.add_zero] at u0 u1 u2 u3
      have U0 : ∀ w', OldOf w3.drew w' → w'.cell? ⟨b3, off3, none⟩ = some (.int .i64 (x0 + mx)) := fun w' h => h.c (by exact u0)
      have U1 : ∀ w', OldOf w3.drew w' → w'.cell? ⟨b3, off3 + 1, none⟩ = some (.int .i64 (y0 + my)) := fun w' h => h.c (by exact u1)
      have U2 : ∀ w', OldOf w3.drew w' → w'.cell? ⟨b3, off3 + 2, none⟩ = some (.int .i64 (x1 + mx)) := fun w' h => h.c (by exact u2)
      have U3 : ∀ w', OldOf w3.drew w' → w'.cell? ⟨b3, off3 + 2 + 1, none⟩ = some (.int .i64 (y1 + my)) := fun w' h => h.c (by exact u3)
      have o0 : OldOf w3.drew w3.drew := OldOf.refl _
      clear u0 u1 u2 u3
      go_upto_region 8 with fail
      go_cut [12] (fun s wx => ∃ p : Nat, s = .pointer (some ⟨p, 0, none⟩) ∧ wx.heap[p]? = some (.cells #[.int .i64 (x0 + mx), .int .i64 (y0 + my), .int .i64 (x1 + mx), .int .i64 (y1 + my)] 26 (0, 0)) ∧ Hid (Below w3.heap.size w3 wx))
      case first =>
        (refine wp_region_noPanic ?_; refine wp_region_held_drew (S := (fun w' => OldOf w3.drew w')) (by kernel_rfl) ?_ (fun hHeld => ?_); exact o0)
        (refine wpAnyH_take (i := 0) (oi := _) (v := ?_) rfl (by kernel_rfl) (by kernel_rfl) (by kernel_rfl) (fun _ _ _ h => h) (Or.inl ⟨?_, ?_⟩) (by assumption) ?_; rotate_left; (focus (first | rfl | (simp [Region.wanted, yielded]; done))); (focus (intro w hSw; (try dsimp only at hSw); go_simp; all_goals (with_reducible rfl))); try simp only [Act.put, List.getElem_toArray, List.getElem_cons_zero, List.getElem_cons_succ, List.setIfInBounds_toArray, List.set_cons_zero, List.set_cons_succ])
        (refine wpAnyH_take (i := 1) (oi := _) (v := ?_) rfl (by kernel_rfl) (by kernel_rfl) (by kernel_rfl) (fun _ _ _ h => h) (Or.inl ⟨?_, ?_⟩) (by assumption) ?_; rotate_left; (focus (first | rfl | (simp [Region.wanted, yielded]; done))); (focus (intro w hSw; (try dsimp only at hSw); go_simp; all_goals (with_reducible rfl))); try simp only [Act.put, List.getElem_toArray, List.getElem_cons_zero, List.getElem_cons_succ, List.setIfInBounds_toArray, List.set_cons_zero, List.set_cons_succ])
        (refine wpAnyH_take (i := 2) (oi := _) (v := ?_) rfl (by kernel_rfl) (by kernel_rfl) (by kernel_rfl) (fun _ _ _ h => h) (Or.inl ⟨?_, ?_⟩) (by assumption) ?_; rotate_left; (focus (first | rfl | (simp [Region.wanted, yielded]; done))); (focus (intro w hSw; (try dsimp only at hSw); go_simp; all_goals (with_reducible rfl))); try simp only [Act.put, List.getElem_toArray, List.getElem_cons_zero, List.getElem_cons_succ, List.setIfInBounds_toArray, List.set_cons_zero, List.set_cons_succ])
        (refine wpAnyH_take (i := 3) (oi := _) (v := ?_) rfl (by kernel_rfl) (by kernel_rfl) (by kernel_rfl) (fun _ _ _ h => h) (Or.inl ⟨?_, ?_⟩) (by assumption) ?_; rotate_left; (focus (first | rfl | (simp [Region.wanted, yielded]; done))); (focus (intro w hSw; (try dsimp only at hSw); go_simp; all_goals (with_reducible rfl))); try simp only [Act.put, List.getElem_toArray, List.getElem_cons_zero, List.getElem_cons_succ, List.setIfInBounds_toArray, List.set_cons_zero, List.set_cons_succ])
        (refine wpAnyH_take (i := 4) (oi := _) (v := ?_) rfl (by kernel_rfl) (by kernel_rfl) (by kernel_rfl) (fun _ _ _ h => h) (Or.inl ⟨?_, ?_⟩) (by assumption) ?_; rotate_left; (focus (first | rfl | (simp [Region.wanted, yielded]; done))); (focus (intro w hSw; (try dsimp only at hSw); go_simp; all_goals (with_reducible rfl))); try simp only [Act.put, List.getElem_toArray, List.getElem_cons_zero, List.getElem_cons_succ, List.setIfInBounds_toArray, List.set_cons_zero, List.set_cons_succ])
        (refine wpAnyH_take (i := 5) (oi := _) (v := ?_) rfl (by kernel_rfl) (by kernel_rfl) (by kernel_rfl) (fun _ _ _ h => h) (Or.inl ⟨?_, ?_⟩) (by assumption) ?_; rotate_left; (focus (first | rfl | (simp [Region.wanted, yielded]; done))); (focus (intro w hSw; (try dsimp only at hSw); go_simp; all_goals (with_reducible rfl))); try simp only [Act.put, List.getElem_toArray, List.getElem_cons_zero, List.getElem_cons_succ, List.setIfInBounds_toArray, List.set_cons_zero, List.set_cons_succ])
        (refine wpAnyH_take (i := 6) (oi := _) (v := ?_) rfl (by kernel_rfl) (by kernel_rfl) (by kernel_rfl) (fun _ _ _ h => h) (Or.inl ⟨?_, ?_⟩) (by assumption) ?_; rotate_left; (focus (first | rfl | (simp [Region.wanted, yielded]; done))); (focus (intro w hSw; (try dsimp only at hSw); go_simp; all_goals (with_reducible rfl))); try simp only [Act.put, List.getElem_toArray, List.getElem_cons_zero, List.getElem_cons_succ, List.setIfInBounds_toArray, List.set_cons_zero, List.set_cons_succ])
        (refine wpAnyH_ready (rs := [7]) (by kernel_rfl) (by simp) ?_; refine AllReadyH.cons (o := _) rfl (fun K hK => ?_) AllReadyH.nil; go_simp)
        (refine hK.out _ _ (by exact o0.alloc _) (fun hHeld2 => ?_); clear hK K hHeld; have hHeld := hHeld2; clear hHeld2; try simp only [Act.put, List.getElem_toArray, List.getElem_cons_zero, List.getElem_cons_succ, List.setIfInBounds_toArray, List.set_cons_zero, List.set_cons_succ])
        (refine wpAnyH_ready (rs := [8]) (by kernel_rfl) (by simp) ?_; refine AllReadyH.cons (o := _) rfl (fun K hK => ?_) AllReadyH.nil; go_simp)
        (refine hK.out _ _ (by exact o0.alloc _) (fun hHeld2 => ?_); clear hK K hHeld; have hHeld := hHeld2; clear hHeld2; try simp only [Act.put, List.getElem_toArray, List.getElem_cons_zero, List.getElem_cons_succ, List.setIfInBounds_toArray, List.set_cons_zero, List.set_cons_succ])
        (refine wpAnyH_done (by kernel_rfl) ?_ _; refine NoPanic.normal ?_)
        clear hHeld o0 U0 U1 U2 U3 GOODP GOODR LIN LIN2 RIN RIN2
        go_wp2_with fail
        go_meet
        refine ⟨_, rfl, ?_, ?_⟩
        · exact heap_alloc_new w3 _
        · exact Lib.hid (((Below.refl _ _).alloc (Nat.le_refl _) _).drew)
      case rest =>
        obtain ⟨p12, rfl, hbox, hbx⟩ := hcut
        obtain ⟨W4, hW⟩ : ∃ W, W = wc := ⟨_, rfl⟩; rw [← hW] at hbox hbx ⊢; clear hW wc
        have X4 : Hid (BoxAt W4 p12 ⟨x0 + mx, y0 + my, x1 + mx, y1 + my⟩) := Lib.hid hbox
        have B4 : Hid (Below w.heap.size w W4) := Lib.hid (B3.out.trans (hbx.out.mono B3.out.size))
        have T4 := Lib.hid (T3.out.below hbx.out)
        have RP4 := Lib.hid (rp_below RP2.out hbx.out)
        clear hbox hbx U0 U1 U2 U3 o0 T3 RP3 RP2 B3 B23 B2 T2 hb3 HC3
        obtain ⟨q0, q1, q2, q3, p0, p1⟩ := T4.out.c
        go_wp2_with fail
        refine (LIN.out _ (rp_below H.out B4.out)).mono ?_
        rintro e w5 ⟨A5, c5, rfl, pz5, hc5, hb5⟩
        have B5 := Lib.hid (B4.out.trans (hb5.mono B4.out.size)); have T5 := Lib.hid (T4.out.below hb5); have X5 := Lib.hid (X4.out.below hb5 X4.out.lt); have RP5 := Lib.hid (rp_below RP4.out hb5)
        have PZ5 := Lib.hid pz5; have HC5 := Lib.hid hc5
        clear q0 q1 q2 q3 p0 p1 hb5 pz5 hc5 B4 T4 X4 RP4 LIN
        obtain ⟨v0, v1, v2, v3⟩ := X5.out.c
        simp only at v0 v1 v2 v3
        go_wp2_with fail
        refine (LIN2.out _ _ _ RP5.out).mono ?_
        rintro e w6 ⟨A6, c6, rfl, pz6, hc6, hb6⟩
        have B6 := Lib.hid (B5.out.trans (hb6.mono B5.out.size)); have T6 := Lib.hid (T5.out.below hb6); have X6 := Lib.hid (X5.out.below hb6 X5.out.lt); have RP6 := Lib.hid (rp_below RP5.out hb6)
        have PZ6 := Lib.hid pz6; have PY6 := Lib.hid (pz_below PZ5.out hb6); have HC6 := Lib.hid hc6
        clear v0 v1 v2 v3 hb6 pz6 hc6 B5 T5 X5 RP5 PZ5 LIN2
        go_wp2_with fail
        go_loopw [15] (fun i wr => ∃ k : Nat, k ≤ ps.length ∧ i = .int .i64 k ∧ Hid (Below w6.heap.size w6 wr)) (fun i _ => ps.length - (intOf i).toNat)
        case atStart => exact ⟨0, Nat.zero_le _, rfl, Lib.hid (Below.refl _ _)⟩
        case round =>
          obtain ⟨k, hk, rfl, hbel⟩ := hrel
          by_cases hlt : k < ps.length
          · obtain ⟨b, off, Ai, ci, rfl, hb, hc, hr, -, -⟩ := (PY6.out.below hbel.out).at_ hlt
            obtain ⟨b2, off2, Bi, di, rfl, hb2, hc2, hr2, -, -⟩ := (PZ6.out.below hbel.out).at_ (k := k) (by rw [List.length_map]; exact hlt)
            rw [List.getElem_map] at hc2 hr2
            have HR := Lib.hid hr; have HR2 := Lib.hid hr2; clear hr hr2
            have MVP := Lib.hid (fun (u : World) (hu : Rp u Ai ps[k]) => moved_any Ai ps[k].length ci ps[k] mx my u rfl (by have := CX.out _ (List.getElem_mem hlt); omega) hu)
            obtain ⟨g1, g2⟩ := GOODP.out _ (List.getElem_mem hlt)
            have hxl : ps[k].length ≤ 200 := CX.out _ (List.getElem_mem hlt)
            have HC2' := Lib.hid hc2; clear hc2
            generalize ps[k] = x at *
            have LX : Hid ((x.map (Cl.mvP (mx, my))).length = x.length) := Lib.hid (List.length_map _)
            have MVQ : Hid (∀ u, Rp u Ai x → Calls Try.prog 18 #[.slice Ai x.length ci, .agg #[.int .i64 mx, .int .i64 my]] u (fun e w' => ∃ A c, e = .returned (.tuple #[.slice A x.length c, .bool true]) ∧ Rp w' A (x.map (Cl.mvP (mx, my))) ∧ Below u.heap.size u w')) := Lib.hid (fun u hu => (MVP.out u hu).mono fun e w' ⟨A', c', he, hr', _, hb'⟩ => ⟨A', c', by rw [he, g1, g2, LX.out], by rw [← g2]; exact hr', hb'⟩)
            clear g1 g2 MVP
            have TR := Lib.hid (T6.out.below hbel.out)
            obtain ⟨-, -, -, -, p0, p1⟩ := TR.out.c
            have hc0 := Lib.hid hc
            have C0 : ∀ w', OldOf wr.drew w' → w'.cell? ⟨b, off + k, none⟩ = some (.slice Ai x.length ci) := fun w' h => h.c (by exact hc)
            have P0 : ∀ w', OldOf wr.drew w' → w'.cell? ⟨w.heap.size + 1, 0, none⟩ = some (.int .i64 mx) := fun w' h => h.c (by exact p0)
            have P1 : ∀ w', OldOf wr.drew w' → w'.cell? ⟨w.heap.size + 1, 1, none⟩ = some (.int .i64 my) := fun w' h => h.c (by exact p1)
            have o0 : OldOf wr.drew wr.drew := OldOf.refl _
            clear hc p0 p1
            go_wp2_with fail
            go_region_held3 (fun w' => OldOf wr.drew w') (first | assumption | exact o2) (((with_reducible refine (MVQ.out _ (rp_drew HR.out)).mono ?_); rintro e w7 ⟨A7, c7, rfl, rp7, hb7⟩; have o2 := OldOf.below (by assumption) hb7))
            have hcc : w7.cell? ⟨b2, off2 + k, none⟩ = some (.slice Bi x.length di) := (OldOf.c o2 (by exact HC2'.out)).trans (by rw [LX.out])
            have B7 : Hid (Below w6.heap.size w6 w7) := Lib.hid (hbel.out.trans (o2.undrew.mono hbel.out.size))
            have SM : Hid (Calls Try.prog 14 #[.slice A7 x.length c7, .slice Bi x.length di] w7 fun e w' => e = .returned (.bool true) ∧ Below w7.heap.size w7 w') := Lib.hid (same_q A7 Bi x.length c7 di (x.map (Cl.mvP (mx, my))) w7 LX.out.symm (by rw [LX.out]; omega) rp7 (HR2.out.below o2.undrew))
            clear C0 P0 P1 o0 o2 rp7 hb7 MVQ
            go_wp2_with fail
            refine SM.out.mono ?_
            rintro e w8 ⟨rfl, hb8⟩
            have B8 := Lib.hid (B7.out.trans (hb8.mono B7.out.size)); clear hb8
            go_wp2_with fail
            exact ⟨⟨k + 1, hlt, by go_num, B8⟩, by simp [intOf]; omega⟩
          · clear PY6 PZ6 CX GOODP
            have TR := Lib.hid (T6.out.below hbel.out)
            have BR := Lib.hid (B6.out.trans (hbel.out.mono B6.out.size))
            have XR := Lib.hid (X6.out.below hbel.out X6.out.lt)
            have RPR := Lib.hid (rp_below RP6.out hbel.out)
            obtain ⟨q0, q1, q2, q3, p0, p1⟩ := TR.out.c
            have Q0 : ∀ w', OldOf wr.drew w' → w'.cell? ⟨w.heap.size, 0, none⟩ = some (.int .i64 x0) := fun w' h => h.c (by exact q0)
            have Q1 : ∀ w', OldOf wr.drew w' → w'.cell? ⟨w.heap.size, 1, none⟩ = some (.int .i64 y0) := fun w' h => h.c (by exact q1)
            have Q2 : ∀ w', OldOf wr.drew w' → w'.cell? ⟨w.heap.size, 2, none⟩ = some (.int .i64 x1) := fun w' h => h.c (by exact q2)
            have Q3 : ∀ w', OldOf wr.drew w' → w'.cell? ⟨w.heap.size, 3, none⟩ = some (.int .i64 y1) := fun w' h => h.c (by exact q3)
            have P0 : ∀ w', OldOf wr.drew w' → w'.cell? ⟨w.heap.size + 1, 0, none⟩ = some (.int .i64 mx) := fun w' h => h.c (by exact p0)
            have P1 : ∀ w', OldOf wr.drew w' → w'.cell? ⟨w.heap.size + 1, 1, none⟩ = some (.int .i64 my) := fun w' h => h.c (by exact p1)
            have o0 : OldOf wr.drew wr.drew := OldOf.refl _
            have LR : Hid ((rr.map (Cl.mvP (mx, my))).length = rr.length) := Lib.hid (List.length_map _)
            have MVR : Hid (∀ Ai ci u, Rp u Ai rr → Calls Try.prog 18 #[.slice Ai rr.length ci, .agg #[.int .i64 mx, .int .i64 my]] u (fun e w' => ∃ A c, e = .returned (.tuple #[.slice A rr.length c, .bool true]) ∧ Rp w' A (rr.map (Cl.mvP (mx, my))) ∧ Below u.heap.size u w')) := Lib.hid (fun Ai ci u hu => (moved_any Ai rr.length ci rr mx my u rfl (by omega) hu).mono fun e w' ⟨A', c', he, hr', _, hb'⟩ => ⟨A', c', by rw [he, GOODR.out.1, GOODR.out.2, LR.out], by rw [← GOODR.out.2]; exact hr', hb'⟩)
            have RN : Hid (∀ u, OldOf wr.drew u → Calls Try.prog 15 #[.slice A n c, .agg #[.int .i64 x0, .int .i64 y0, .int .i64 x1, .int .i64 y1]] u (PtsPost u rr)) := Lib.hid (fun u hu => RIN.out u (rp_below H.out (BR.out.trans (hu.undrew.mono BR.out.size))))
            clear q0 q1 q2 q3 p0 p1 RIN
            go_wp2_with fail
            go_region_held3 (fun w' => OldOf wr.drew w') (first | assumption | exact o2) ((first
              | ((with_reducible refine (RN.out _ (by assumption)).mono ?_); rintro e w7 ⟨A7, c7, rfl, rp7, hc7, hb7⟩; have o2 := OldOf.below (by assumption) hb7)
              | ((with_reducible refine (MVR.out _ _ _ ?_).mono ?_); (focus (first | assumption | exact rp_drew (by assumption))); rintro e w8 ⟨A8, c8, rfl, rp8, hb8⟩; have o2 := OldOf.below (by assumption) hb8)))
            have Q0' := Q0 _ o2
            have T8 := Lib.hid (TR.out.below o2.undrew)
            have X8 := Lib.hid (XR.out.below o2.undrew XR.out.lt)
            have RP8 := Lib.hid (rp_below RPR.out o2.undrew)
            have B8 := Lib.hid (BR.out.trans (o2.undrew.mono BR.out.size))
            have RR8 := Lib.hid rp8
            clear Q0 Q1 Q2 Q3 P0 P1 o0 o2 rp8 rp7 hb7 hb8 RN MVR Q0'
            obtain ⟨v0, v1, v2, v3⟩ := X8.out.c
            simp only at v0 v1 v2 v3
            go_wp2_with fail
            refine (RIN2.out _ _ _ RP8.out).mono ?_
            rintro e w9 ⟨A9, c9, rfl, rp9, hc9, hb9⟩
            have B9 := Lib.hid (B8.out.trans (hb9.mono B8.out.size))
            have SM : Hid (Calls Try.prog 14 #[.slice A8 rr.length c8, .slice A9 rr.length c9] w9 fun e w' => e = .returned (.bool true) ∧ Below w9.heap.size w9 w') := Lib.hid (same_q A8 A9 rr.length c8 c9 (rr.map (Cl.mvP (mx, my))) w9 LR.out.symm (by rw [LR.out]; omega) (RR8.out.below hb9) rp9)
            clear v0 v1 v2 v3 rp9 hc9 hb9
            go_wp2_with fail
            refine SM.out.mono ?_
            rintro e w10 ⟨rfl, hb10⟩
            have B10 := Lib.hid (B9.out.trans (hb10.mono B9.out.size)); clear hb10
            go_wp2_with fail
            go_ret
            exact ⟨rfl, B10.out⟩
theorem walk_ClipMoved (A : Option Addr) (n c : Nat) (l : List Cl.Pt) (x0 y0 x1 y1 mx my : Int) (w : World) (hn : n = l.length) (_ : n ≤ c) (_ : c ≤ 8796093022208) (h : Rp w A l) (hw : Wf l) (hb : Wf [(x0, y0), (x1, y1)]) (_ : Wf [(mx, my)]) :
    Calls Try.prog 9 #[.slice A n c, .agg #[.int .i64 x0, .int .i64 y0, .int .i64 x1, .int .i64 y1], .agg #[.int .i64 mx, .int .i64 my]] w fun e w' => e = .returned (.bool true) ∧ Below w.heap.size w w' := by
  by_cases hl : n ≤ 100
  · exact mv_short A n c l x0 y0 x1 y1 mx my w hn hl h hw hb
  · exact mv_long A n c x0 y0 x1 y1 mx my w (by omega)
end Go.Proofs.Ytdiknijbjmhacaa
