/- REFERENCE: OpenReader. -/
import Derived.Test.YtfhgidbmeifflaaPI0
set_option linter.unusedSimpArgs false
set_option linter.unusedVariables false
namespace Go.Proofs.Ytfhgidbmeifflaa
open Go.RowKit Go.Maps Go.ChangeMaps Go.MapKept Go.WideShapes Go.WideMaps

set_option maxHeartbeats 8000000 in
set_option maxRecDepth 100000 in
theorem ropen_any (q : Nat) (G : Nat → Prop) (t : RSh) (w : World) (h : RefAt w q G t) (hb : RB t) :
    Calls Try.prog 25 #[.pointer (some ⟨q, 0, none⟩)] w fun e w' => e = .returned (.tuple #[.int .i64 ((ropenF t).2.1 : Int), .int .i64 ((ropenF t).2.2 : Int)]) ∧ RefPost w q G (ropenF t).1 w' := by
  have RE : Hid (ropenF t = if cntO t.opn = 64 then (t, 0, 21) else ({ t with readers := t.readers ++ [t.newest], opn := t.opn ++ [true] }, t.opn.length + 1, 0)) := Lib.hid rfl
  generalize ropenF t = RR at *
  obtain ⟨vn, vr, vo, vk, vs, h⟩ := h
  have H := Lib.hid h
  have HB := Lib.hid hb
  obtain ⟨x0, x1, x2, x3, x4, x5⟩ := h.cells
  obtain ⟨Ao, co, hvo, hRo⟩ := own_sl h.eo
  rw [hvo] at x3
  have RO := Lib.hid hRo
  have lo := h.lo
  have rl := hb.rds
  clear h hb hRo
  go_enter Try.func25, Try.ntmps25
  go_wp2_with fail
  go_loopw [4, 5] (fun s4 s5 wr => ∃ k : Nat, k ≤ t.opn.length ∧ s5 = .int .i64 (k : Int) ∧ s4 = .int .i64 ((cntO (t.opn.take k) : Nat) : Int) ∧ wr = w) (fun _ i _ => t.opn.length - (intOf i).toNat)
  case atStart => exact ⟨0, Nat.zero_le _, rfl, rfl, rfl⟩
  case round =>
    obtain ⟨k, hk, rfl, rfl, rfl⟩ := hrel
    by_cases hlt : k < t.opn.length
    · have d1 : (k : Int) < (t.opn.length : Int) := by omega
      have d2 : (0 : Int) ≤ (k : Int) := by omega
      obtain ⟨b, off, rfl, hb, c0⟩ := RO.out.map_at hlt
      have CT := cntO_take t.opn hlt
      have cl : cntO (t.opn.take k) ≤ 100000 := Nat.le_trans (List.length_filter_le _ _) (by rw [List.length_take]; omega)
      generalize cntO (t.opn.take k) = m at *
      generalize t.opn[k] = ob at *
      have CTH := Lib.hid CT
      clear CT
      cases ob
      · go_wp2_with fail
        exact ⟨⟨k + 1, by omega, by go_num, by rw [CTH.out]; simp, trivial⟩, by simp [intOf]; omega⟩
      · go_wp2_with fail
        exact ⟨⟨k + 1, by omega, by go_num, by rw [CTH.out]; exact congrArg (Value.int .i64) (by simp), trivial⟩, by simp [intOf]; omega⟩
    · have d1 : ¬ (k : Int) < (t.opn.length : Int) := by omega
      rw [List.take_of_length_le (by omega)]
      by_cases hf : cntO t.opn = 64
      · have RE2 := RE.out
        rw [if_pos hf] at RE2
        have RE3 := Lib.hid RE2
        rw [hf]
        clear RE RE2 hf
        go_wp2_with fail
        go_ret2
        exact ⟨by rw [RE3.out]; rfl, by rw [RE3.out]; exact ⟨G, ⟨vn, vr, vo, vk, vs, H.out⟩, fun g hg => .inl hg, But.refl _ _⟩⟩
      · have RE2 := RE.out
        rw [if_neg hf] at RE2
        have RE3 := Lib.hid RE2
        have e64 : (((cntO t.opn : Nat) : Int) == 64) = false := by simp; omega
        clear RE RE2
        go_wp2_with fail
        obtain ⟨Ar, cr, hvr, hRr⟩ := own_sl H.out.er
        obtain ⟨An, cn, hvn, hRn⟩ := own_sl H.out.en
        rw [hvr] at x2
        rw [hvn] at x1
        have yk := x2
        have yn := x1
        have RRY := Lib.hid hRr
        have RNY := Lib.hid hRn
        have ones := H.out.ones
        have zqy : q < wr.heap.size := H.out.lt q H.out.gq
        have GQ : G q := H.out.gq
        have lvs : vs.length ≤ 100000 := by have := H.out.lr; omega
        have lnw : t.newest.length ≤ 100200 := by have := HB.out.newest; omega
        have f2 := free_blk H.out.blk 2
        clear hRr hRn hvr hvn x0 x1 x2 x3 x4 x5 HB
        go_upto_region 11 with fail
        go_cut [44] (fun s44 wx => Hid (∃ (G9 : Nat → Prop) (vr9 v12 : Value), RHalf wx q G9 { t with readers := t.readers ++ [t.newest] } vn vr9 vo vk (vs ++ [v12]) ∧ (∀ g, G9 g → G g ∨ wr.heap.size ≤ g) ∧ But G wr wx))
        case rest =>
          obtain ⟨Y, hY⟩ : ∃ Y, Y = wc := ⟨_, rfl⟩
          rw [← hY] at hcut ⊢
          clear hY wc
          obtain ⟨G9, vr9, v12, hm9, hG9, hU9⟩ := hcut.out
          have y3 : Y.cell? ⟨q, 3, none⟩ = some (.slice Ao t.opn.length co) := (cell_of_row Y q 3 _ _ _ hm9.blk).trans (by rw [hvo]; rfl)
          have hRo9 : Rd Y Ao (t.opn.map .bool) := by
            obtain ⟨A', c', e, hR⟩ := own_sl hm9.eo
            rw [hvo] at e
            injection e with e1 e2 e3
            rw [e1]; exact hR
          have RO9 := Lib.hid hRo9
          have M9 := Lib.hid hm9
          have G9H := Lib.hid hG9
          have U9 := Lib.hid hU9
          have z9 := hm9.lt q hm9.gq
          have lrd := lo
          have lop : t.opn.length ≤ 100000 := by omega
          clear hcut hm9 hG9 hU9 hRo9 RO RRY RNY yk yn ones f2 H lo hvo
          have BA : Below Y.heap.size Y (Y.alloc (.cells #[] 4)) := (Below.refl _ _).alloc (Nat.le_refl _) _
          have BAH := Lib.hid BA
          have LO := Lib.hid lrd
          clear BA lrd
          go_wp2_with (at_builtin; first
            | (refine wpList_appRS rfl (.tmp 46) (.tmp 50) 56 rfl Try.underlying56 info_bo rfl (by decide) Y.heap.size _ 0 [] Ao t.opn.length co (t.opn.map .bool) (by intro u hu; obtain ⟨b, _, rfl⟩ := List.mem_map.1 hu; rfl) rfl rfl (own_emptyB Y rfl _) (RO9.out.below BAH.out) (by simp) (by simp) (by omega) (by omega) ?_; intro v5 w5 o5 b5 g5; rw [Nat.zero_add, List.nil_append] at o5; have B5 := Lib.hid (BAH.out.trans b5); clear g5 b5)
            | (refine wpList_app1v rfl (.tmp 51) (.tmp 52) 56 rfl Try.underlying56 info_bo rfl Y.heap.size v5 t.opn.length (t.opn.map .bool) (.bool true) rfl rfl rfl rfl o5 B5.out.size (by omega) (by omega) ?_; intro g7 c7 w7 ho7 hg7 hl7 hb7
               have B7 := Lib.hid (B5.out.trans hb7)
               have m7 := M9.out.keep B7.out.size (fun g hg => B7.out.block g (M9.out.lt g hg))
               have f3 := free_blk m7.blk 3
               have y37 : w7.cell? ⟨q, 3, none⟩ = some vo := cell_of_row w7 q 3 _ _ _ m7.blk
               have MM := Lib.hid (m7.full (l := t.opn ++ [true]) (v := .slice (some ⟨g7, 0, none⟩) (t.opn.length + 1) c7) (n := t.opn.length + 1) (by rw [List.length_append, List.length_append, LO.out]; rfl) (by rw [List.length_append]; rfl) (by rw [List.map_append]; exact own0 ho7))
               have yl : (w7.setCell ⟨q, 3, none⟩ (.slice (some ⟨g7, 0, none⟩) (t.opn.length + 1) c7)).cell? ⟨q, 3, none⟩ = some (.slice (some ⟨g7, 0, none⟩) (t.opn.length + 1) c7) := MM.out.cells.2.2.2.1
               have HZ := Lib.hid (ho7.lt g7 rfl).1
               clear m7 ho7 hg7 hl7 hb7 o5))
          go_ret2
          refine ⟨by rw [RE3.out]; rfl, by rw [RE3.out]; exact ⟨_, ⟨_, _, _, _, _, MM.out⟩, fun g hg => hg.elim (G9H.out g) (fun e => by
            have e : some g7 = some g := e
            injection e with e; rw [← e]; exact .inr (Nat.le_trans U9.out.size HZ.out)), (U9.out.thenB (B7.out.mono U9.out.size)).set (p := ⟨q, 3, none⟩) GQ _⟩⟩
        obtain ⟨Y, hY⟩ : ∃ Y, Y = wr := ⟨_, rfl⟩
        have HY := Lib.hid hY
        rw [← hY] at yk yn zqy RRY RNY f2 H ⊢
        clear hY
        go_wp2_with fail
        have CN : ∀ w', SameN q Y w' → w'.cell? ⟨q, 1, none⟩ = some (.slice An t.newest.length cn) := fun w' h => h.cell1 yn
        have SBof : ∀ u : World, Below Y.heap.size Y u → SameN q Y u := fun u hu => SameN.of zqy hu
        have SB0 : SameN q Y Y.drew := ⟨fun _ _ _ => rfl, rfl⟩
        (refine wp_region_noPanic ?_; refine wp_region_held_drew (S := (fun w' : World => SameN q Y w')) (by kernel_rfl) ?_ (fun hHeld => ?_); exact SB0)
        (refine wpAnyH_take (i := 0) (oi := _) (v := ?_) rfl (by kernel_rfl) (by kernel_rfl) (by kernel_rfl) (fun _ _ _ h => h) (Or.inl ⟨?_, ?_⟩) (by assumption) ?_; rotate_left; (focus (first | rfl | (simp [Region.wanted, yielded]; done))); (focus (intro w hSw; (try dsimp only at hSw); go_simp; all_goals (with_reducible rfl))); try simp only [Act.put, List.getElem_toArray, List.getElem_cons_zero, List.getElem_cons_succ, List.setIfInBounds_toArray, List.set_cons_zero, List.set_cons_succ])
        (refine wpAnyH_take (i := 2) (oi := _) (v := ?_) rfl (by kernel_rfl) (by kernel_rfl) (by kernel_rfl) (fun _ _ _ h => h) (Or.inl ⟨?_, ?_⟩) (by assumption) ?_; rotate_left; (focus (first | rfl | (simp [Region.wanted, yielded]; done))); (focus (intro w hSw; (try dsimp only at hSw); go_simp; all_goals (with_reducible rfl))); try simp only [Act.put, List.getElem_toArray, List.getElem_cons_zero, List.getElem_cons_succ, List.setIfInBounds_toArray, List.set_cons_zero, List.set_cons_succ])
        (refine wpAnyH_take (i := 3) (oi := _) (v := ?_) rfl (by kernel_rfl) (by kernel_rfl) (by kernel_rfl) (fun _ _ _ h => h) (Or.inl ⟨?_, ?_⟩) (by assumption) ?_; rotate_left; (focus (first | rfl | (simp [Region.wanted, yielded]; done))); (focus (intro w hSw; (try dsimp only at hSw); go_simp; all_goals (with_reducible rfl))); try simp only [Act.put, List.getElem_toArray, List.getElem_cons_zero, List.getElem_cons_succ, List.setIfInBounds_toArray, List.set_cons_zero, List.set_cons_succ])
        (refine wpAnyH_take (i := 4) (oi := _) (v := ?_) rfl (by kernel_rfl) (by kernel_rfl) (by kernel_rfl) (fun _ _ _ h => h) (Or.inl ⟨?_, ?_⟩) (by assumption) ?_; rotate_left; (focus (first | rfl | (simp [Region.wanted, yielded]; done))); (focus (intro w hSw; (try dsimp only at hSw); go_simp; all_goals (with_reducible rfl))); try simp only [Act.put, List.getElem_toArray, List.getElem_cons_zero, List.getElem_cons_succ, List.setIfInBounds_toArray, List.set_cons_zero, List.set_cons_succ])
        (refine wpAnyH_take (i := 8) (oi := _) (v := ?_) rfl (by kernel_rfl) (by kernel_rfl) (by kernel_rfl) (fun _ _ _ h => h) (Or.inl ⟨?_, ?_⟩) (by assumption) ?_; rotate_left; (focus (first | rfl | (simp [Region.wanted, yielded]; done))); (focus (intro w hSw; (try dsimp only at hSw); go_simp; all_goals (with_reducible rfl))); try simp only [Act.put, List.getElem_toArray, List.getElem_cons_zero, List.getElem_cons_succ, List.setIfInBounds_toArray, List.set_cons_zero, List.set_cons_succ])
        (refine wpAnyH_take (i := 9) (oi := _) (v := ?_) rfl (by kernel_rfl) (by kernel_rfl) (by kernel_rfl) (fun _ _ _ h => h) (Or.inl ⟨?_, ?_⟩) (by assumption) ?_; rotate_left; (focus (first | rfl | (simp [Region.wanted, yielded]; done))); (focus (intro w hSw; (try dsimp only at hSw); go_simp; all_goals (with_reducible rfl))); try simp only [Act.put, List.getElem_toArray, List.getElem_cons_zero, List.getElem_cons_succ, List.setIfInBounds_toArray, List.set_cons_zero, List.set_cons_succ])
        (refine wpAnyH_take (i := 10) (oi := _) (v := ?_) rfl (by kernel_rfl) (by kernel_rfl) (by kernel_rfl) (fun _ _ _ h => h) (Or.inl ⟨?_, ?_⟩) (by assumption) ?_; rotate_left; (focus (first | rfl | (simp [Region.wanted, yielded]; done))); (focus (intro w hSw; (try dsimp only at hSw); go_simp; all_goals (with_reducible rfl))); try simp only [Act.put, List.getElem_toArray, List.getElem_cons_zero, List.getElem_cons_succ, List.setIfInBounds_toArray, List.set_cons_zero, List.set_cons_succ])
        (refine wpAnyH_take (i := 11) (oi := _) (v := ?_) rfl (by kernel_rfl) (by kernel_rfl) (by kernel_rfl) (fun _ _ _ h => h) (Or.inl ⟨?_, ?_⟩) (by assumption) ?_; rotate_left; (focus (first | rfl | (simp [Region.wanted, yielded]; done))); (focus (intro w hSw; (try dsimp only at hSw); go_simp; all_goals (with_reducible rfl))); try simp only [Act.put, List.getElem_toArray, List.getElem_cons_zero, List.getElem_cons_succ, List.setIfInBounds_toArray, List.set_cons_zero, List.set_cons_succ])
        have bW : Below Y.heap.size Y Y := Below.refl _ _
        (refine wpAnyH_ready (rs := [1, 5, 7]) (by kernel_rfl) (by simp) ?_; refine AllReadyH.cons (o := _) rfl (fun K hK => ?_) (AllReadyH.cons (o := _) rfl (fun K hK => ?_) (AllReadyH.cons (o := _) rfl (fun K hK => ?_) AllReadyH.nil)))
        focus
          go_simp
          have b1 : Y.heap.size ≤ Y.heap.size := bW.size
          have E1 := own_emptyL Y (cs := #[]) rfl 54
          have bW2 : Below Y.heap.size Y (Y.alloc (.cells #[] 54)) := bW.trans ((Below.refl Y.heap.size Y).alloc (Nat.le_refl _) (.cells #[] 54) |>.mono bW.size)
          (refine hK.out _ _ (SBof (Y.alloc (.cells #[] 54)) bW2) (fun hHeld2 => ?_); clear hK K hHeld; have hHeld := hHeld2; clear hHeld2; try simp only [Act.put, List.getElem_toArray, List.getElem_cons_zero, List.getElem_cons_succ, List.setIfInBounds_toArray, List.set_cons_zero, List.set_cons_succ])
          obtain ⟨Z1, hZ1⟩ : ∃ Z1, Z1 = Y.alloc (.cells #[] 54) := ⟨_, rfl⟩
          rw [← hZ1] at bW2 E1 ⊢
          have bW := bW2
          clear bW2 hZ1
          (refine wpAnyH_ready (rs := [5, 7]) (by kernel_rfl) (by simp) ?_; refine AllReadyH.cons (o := _) rfl (fun K hK => ?_) (AllReadyH.cons (o := _) rfl (fun K hK => ?_) AllReadyH.nil))
          focus
            have yk5 : Z1.cell? ⟨q, 2, none⟩ = some (.slice Ar vs.length cr) := (World.cell?_of_block (a := ⟨q, 2, none⟩) (bW.block q zqy)).trans yk
            go_simp
            (refine hK.out _ _ (SBof (Z1) bW) (fun hHeld2 => ?_); clear hK K hHeld; have hHeld := hHeld2; clear hHeld2; try simp only [Act.put, List.getElem_toArray, List.getElem_cons_zero, List.getElem_cons_succ, List.setIfInBounds_toArray, List.set_cons_zero, List.set_cons_succ])
            (refine wpAnyH_ready (rs := [6, 7]) (by kernel_rfl) (by simp) ?_; refine AllReadyH.cons (o := _) rfl (fun K hK => ?_) (AllReadyH.cons (o := _) rfl (fun K hK => ?_) AllReadyH.nil))
            focus
              refine step_appRS rfl (.tmp 29) (.tmp 33) 55 rfl Try.underlying55 info_sl rfl (by decide) _ 0 [] _ Ar vs.length cr vs ones rfl rfl E1 (rd_drew (RRY.out.below bW)) (by omega) (by omega) (by omega) ?_
              intro v6 w6 o6 g6 l6
              have o6n : ∀ g, v6.ownBlock = some g → Y.heap.size ≤ g := fun g hg => (l6 g hg).elim (fun e => by have e : some (Y.heap.size) = some g := e; injection e with e; omega) (fun e => Nat.le_trans bW.size e)
              have bW6 : Below Y.heap.size Y w6 := bW.trans ⟨g6.os, g6.tape, g6.output, g6.size, fun k hk => g6.block k (Nat.lt_of_lt_of_le hk bW.size) (fun e => by have e : some k = some (Y.heap.size) := e; injection e with e; omega)⟩
              have bW := bW6
              clear bW6 g6 l6
              rw [Nat.zero_add, List.nil_append] at o6
              (refine hK.out _ _ (SBof _ bW) (fun hHeld2 => ?_); clear hK K hHeld; have hHeld := hHeld2; clear hHeld2; try simp only [Act.put, List.getElem_toArray, List.getElem_cons_zero, List.getElem_cons_succ, List.setIfInBounds_toArray, List.set_cons_zero, List.set_cons_succ])
              (refine wpAnyH_ready (rs := [7]) (by kernel_rfl) (by simp) ?_; refine AllReadyH.cons (o := _) rfl (fun K hK => ?_) AllReadyH.nil; go_simp)
              have b7 : Y.heap.size ≤ w6.heap.size := bW.size
              have o6 := World.ownsRow.alloc o6 (.cells #[] 68)
              have E7 := own_emptyE w6 (cs := #[]) rfl 68
              have bW2 : Below Y.heap.size Y (w6.alloc (.cells #[] 68)) := bW.trans ((Below.refl w6.heap.size w6).alloc (Nat.le_refl _) (.cells #[] 68) |>.mono bW.size)
              (refine hK.out _ _ (SBof (w6.alloc (.cells #[] 68)) bW2) (fun hHeld2 => ?_); clear hK K hHeld; have hHeld := hHeld2; clear hHeld2; try simp only [Act.put, List.getElem_toArray, List.getElem_cons_zero, List.getElem_cons_succ, List.setIfInBounds_toArray, List.set_cons_zero, List.set_cons_succ])
              obtain ⟨Z2, hZ2⟩ : ∃ Z2, Z2 = w6.alloc (.cells #[] 68) := ⟨_, rfl⟩
              rw [← hZ2] at bW2 o6 E7 ⊢
              have bW := bW2
              clear bW2 hZ2
              (refine wpAnyH_ready (rs := [12]) (by kernel_rfl) (by simp) ?_; refine AllReadyH.cons (o := _) rfl (fun K hK => ?_) AllReadyH.nil)
              refine step_appRS rfl (.tmp 35) (.tmp 39) 54 rfl Try.underlying54 info_ent rfl (by decide) _ 0 [] _ An t.newest.length cn (entsC t.newest) (ents_one _) rfl rfl E7 (rd_drew (RNY.out.below bW)) (entsC_len _) (by omega) (by omega) ?_
              intro v12 w12 o12 g12 l12
              have o12n : ∀ g, v12.ownBlock = some g → Y.heap.size ≤ g := fun g hg => (l12 g hg).elim (fun e => by have e : some (w6.heap.size) = some g := e; injection e with e; omega) (fun e => Nat.le_trans bW.size e)
              have o6 := own_same o6 (fun g hg => g12.block g (o6.lt g hg).2 (fun e => own_ne o6 E7 (by decide) g hg e.symm))
              have bW6 : Below Y.heap.size Y w12 := bW.trans ⟨g12.os, g12.tape, g12.output, g12.size, fun k hk => g12.block k (Nat.lt_of_lt_of_le hk bW.size) (fun e => by have e : some k = some (w6.heap.size) := e; injection e with e; omega)⟩
              have bW := bW6
              clear bW6 g12 l12
              rw [Nat.zero_add, List.nil_append] at o12
              obtain ⟨A12, c12, rfl, -⟩ := own_sl o12
              (refine hK.out _ _ (SBof _ bW) (fun hHeld2 => ?_); clear hK K hHeld; have hHeld := hHeld2; clear hHeld2; try simp only [Act.put, List.getElem_toArray, List.getElem_cons_zero, List.getElem_cons_succ, List.setIfInBounds_toArray, List.set_cons_zero, List.set_cons_succ])
              (refine wpAnyH_ready (rs := [13]) (by kernel_rfl) (by simp) ?_; refine AllReadyH.cons (o := _) rfl (fun K hK => ?_) AllReadyH.nil; go_simp)
              have o6 := World.ownsRow.alloc o6 (.cells #[.slice A12 t.newest.length c12] 54)
              have o12 := World.ownsRow.alloc o12 (.cells #[.slice A12 t.newest.length c12] 54)
              have hba := heap_alloc_new w12 (.cells #[.slice A12 t.newest.length c12] 54)
              have bW2 : Below Y.heap.size Y (w12.alloc (.cells #[.slice A12 t.newest.length c12] 54)) := bW.trans ((Below.refl w12.heap.size w12).alloc (Nat.le_refl _) (.cells #[.slice A12 t.newest.length c12] 54) |>.mono bW.size)
              (refine hK.out _ _ (SBof (w12.alloc (.cells #[.slice A12 t.newest.length c12] 54)) bW2) (fun hHeld2 => ?_); clear hK K hHeld; have hHeld := hHeld2; clear hHeld2; try simp only [Act.put, List.getElem_toArray, List.getElem_cons_zero, List.getElem_cons_succ, List.setIfInBounds_toArray, List.set_cons_zero, List.set_cons_succ])
              obtain ⟨Z3, hZ3⟩ : ∃ Z3, Z3 = w12.alloc (.cells #[.slice A12 t.newest.length c12] 54) := ⟨_, rfl⟩
              rw [← hZ3] at bW2 o6 o12 hba ⊢
              have bW := bW2
              clear bW2 hZ3
              (refine wpAnyH_ready (rs := [14]) (by kernel_rfl) (by simp) ?_; refine AllReadyH.cons (o := _) rfl (fun K hK => ?_) AllReadyH.nil)
              refine step_appG rfl (.tmp 34) (.tmp 41) 55 rfl Try.underlying55 info_sl rfl (by decide) _ vs.length vs _ _ rfl ?_ rfl rfl hba o6 (by omega) (by omega) ?_
              · intro y hy
                simp at hy
                rcases hy with rfl
                rfl
              intro g' c' u1 hown hg1 hloc
              have bW7 : Below Y.heap.size Y u1 := bW.trans ⟨hg1.os, hg1.tape, hg1.output, hg1.size, fun k hk => hg1.block k (Nat.lt_of_lt_of_le hk bW.size) (fun e => by have := o6n k e.symm; omega)⟩
              have o12' := own_same o12 (fun g hg => hg1.block g (o12.lt g hg).2 (fun e => own_ne o12 o6 (by decide) g hg e.symm))
              have M7 := H.out.below bW7
              have f7 := free_blk M7.blk 2
              have M8 := M7.grow (l := t.newest) rfl hown o12'
              have nG : Y.heap.size ≤ g' := hloc.elim (fun e => o6n g' e) (fun e => Nat.le_trans bW.size e)
              have U8 : But G Y (u1.setCell ⟨q, 2, none⟩ (.slice (some ⟨g', 0, none⟩) (vs.length + 1) c')) := (But.of_below bW7).set (p := ⟨q, 2, none⟩) GQ _
              have FIN := Lib.hid (show ∃ (G9 : Nat → Prop) (vr9 v12 : Value), RHalf (u1.setCell ⟨q, 2, none⟩ (.slice (some ⟨g', 0, none⟩) (vs.length + 1) c')) q G9 { t with readers := t.readers ++ [t.newest] } vn vr9 vo vk (vs ++ [v12]) ∧ (∀ g, G9 g → G g ∨ Y.heap.size ≤ g) ∧ But G Y (u1.setCell ⟨q, 2, none⟩ (.slice (some ⟨g', 0, none⟩) (vs.length + 1) c')) from
                ⟨_, _, _, M8, fun g hg => hg.elim .inl (fun hg => .inr (hg.elim (fun e => by
                  have e : some g' = some g := e
                  injection e with e; rw [← e]; exact nG) (o12n g))), U8⟩)
              have S7 := SBof _ bW7
              have S8 := S7.set (.slice (some ⟨g', 0, none⟩) (vs.length + 1) c')
              have y27 : u1.cell? ⟨q, 2, none⟩ = some vr := M7.cells.2.2.1
              clear M7 M8 o12' U8 hown hg1 hloc
              (refine hK.out _ _ S7 (fun hHeld2 => ?_); clear hK K hHeld; have hHeld := hHeld2; clear hHeld2; try simp only [Act.put, List.getElem_toArray, List.getElem_cons_zero, List.getElem_cons_succ, List.setIfInBounds_toArray, List.set_cons_zero, List.set_cons_succ])
              (refine wpAnyH_take (i := 15) (oi := _) (v := ?_) rfl (by kernel_rfl) (by kernel_rfl) (by kernel_rfl) (fun _ _ _ h => h) (Or.inl ⟨?_, ?_⟩) (by assumption) ?_; rotate_left; (focus (first | rfl | (simp [Region.wanted, yielded]; done))); (focus (intro w hSw; (try dsimp only at hSw); go_simp; all_goals (with_reducible rfl))); try simp only [Act.put, List.getElem_toArray, List.getElem_cons_zero, List.getElem_cons_succ, List.setIfInBounds_toArray, List.set_cons_zero, List.set_cons_succ])
              (refine wpAnyH_take (i := 16) (oi := _) (v := ?_) rfl (by kernel_rfl) (by kernel_rfl) (by kernel_rfl) (fun _ _ _ h => h) (Or.inl ⟨?_, ?_⟩) (by assumption) ?_; rotate_left; (focus (first | rfl | (simp [Region.wanted, yielded]; done))); (focus (intro w hSw; (try dsimp only at hSw); go_simp; all_goals (with_reducible rfl))); try simp only [Act.put, List.getElem_toArray, List.getElem_cons_zero, List.getElem_cons_succ, List.setIfInBounds_toArray, List.set_cons_zero, List.set_cons_succ])
              (refine wpAnyH_ready (rs := [17]) (by kernel_rfl) (by simp) ?_; refine AllReadyH.cons (o := _) rfl (fun K hK => ?_) AllReadyH.nil; go_simp)
              (refine hK.out _ _ S8 (fun hHeld2 => ?_); clear hK K hHeld; have hHeld := hHeld2; clear hHeld2; try simp only [Act.put, List.getElem_toArray, List.getElem_cons_zero, List.getElem_cons_succ, List.setIfInBounds_toArray, List.set_cons_zero, List.set_cons_succ])
              (refine wpAnyH_done (by kernel_rfl) ?_ _; refine NoPanic.normal ?_)
              clear hHeld CN
              go_wp2_with fail
              go_meet
              rw [← HY.out]
              exact FIN
            focus
              go_simp
              have b7 : Y.heap.size ≤ Z1.heap.size := bW.size
              have E1 := World.ownsRow.alloc E1 (.cells #[] 68)
              have E7 := own_emptyE Z1 (cs := #[]) rfl 68
              have bW2 : Below Y.heap.size Y (Z1.alloc (.cells #[] 68)) := bW.trans ((Below.refl Z1.heap.size Z1).alloc (Nat.le_refl _) (.cells #[] 68) |>.mono bW.size)
              (refine hK.out _ _ (SBof (Z1.alloc (.cells #[] 68)) bW2) (fun hHeld2 => ?_); clear hK K hHeld; have hHeld := hHeld2; clear hHeld2; try simp only [Act.put, List.getElem_toArray, List.getElem_cons_zero, List.getElem_cons_succ, List.setIfInBounds_toArray, List.set_cons_zero, List.set_cons_succ])
              obtain ⟨Z4, hZ4⟩ : ∃ Z4, Z4 = Z1.alloc (.cells #[] 68) := ⟨_, rfl⟩
              rw [← hZ4] at bW2 E1 E7 ⊢
              have bW := bW2
              clear bW2 hZ4
              (refine wpAnyH_ready (rs := [6]) (by kernel_rfl) (by simp) ?_; refine AllReadyH.cons (o := _) rfl (fun K hK => ?_) AllReadyH.nil)
              refine step_appRS rfl (.tmp 29) (.tmp 33) 55 rfl Try.underlying55 info_sl rfl (by decide) _ 0 [] _ Ar vs.length cr vs ones rfl rfl E1 (rd_drew (RRY.out.below bW)) (by omega) (by omega) (by omega) ?_
              intro v6 w6 o6 g6 l6
              have o6n : ∀ g, v6.ownBlock = some g → Y.heap.size ≤ g := fun g hg => (l6 g hg).elim (fun e => by have e : some (Y.heap.size) = some g := e; injection e with e; omega) (fun e => Nat.le_trans bW.size e)
              have E7 := own_same E7 (fun g hg => g6.block g (E7.lt g hg).2 (fun e => own_ne E7 E1 (by decide) g hg e.symm))
              have bW6 : Below Y.heap.size Y w6 := bW.trans ⟨g6.os, g6.tape, g6.output, g6.size, fun k hk => g6.block k (Nat.lt_of_lt_of_le hk bW.size) (fun e => by have e : some k = some (Y.heap.size) := e; injection e with e; omega)⟩
              have bW := bW6
              clear bW6 g6 l6
              rw [Nat.zero_add, List.nil_append] at o6
              (refine hK.out _ _ (SBof _ bW) (fun hHeld2 => ?_); clear hK K hHeld; have hHeld := hHeld2; clear hHeld2; try simp only [Act.put, List.getElem_toArray, List.getElem_cons_zero, List.getElem_cons_succ, List.setIfInBounds_toArray, List.set_cons_zero, List.set_cons_succ])
              (refine wpAnyH_ready (rs := [12]) (by kernel_rfl) (by simp) ?_; refine AllReadyH.cons (o := _) rfl (fun K hK => ?_) AllReadyH.nil)
              refine step_appRS rfl (.tmp 35) (.tmp 39) 54 rfl Try.underlying54 info_ent rfl (by decide) _ 0 [] _ An t.newest.length cn (entsC t.newest) (ents_one _) rfl rfl E7 (rd_drew (RNY.out.below bW)) (entsC_len _) (by omega) (by omega) ?_
              intro v12 w12 o12 g12 l12
              have o12n : ∀ g, v12.ownBlock = some g → Y.heap.size ≤ g := fun g hg => (l12 g hg).elim (fun e => by have e : some (Z1.heap.size) = some g := e; injection e with e; omega) (fun e => Nat.le_trans bW.size e)
              have o6 := own_same o6 (fun g hg => g12.block g (o6.lt g hg).2 (fun e => own_ne o6 E7 (by decide) g hg e.symm))
              have bW6 : Below Y.heap.size Y w12 := bW.trans ⟨g12.os, g12.tape, g12.output, g12.size, fun k hk => g12.block k (Nat.lt_of_lt_of_le hk bW.size) (fun e => by have e : some k = some (Z1.heap.size) := e; injection e with e; omega)⟩
              have bW := bW6
              clear bW6 g12 l12
              rw [Nat.zero_add, List.nil_append] at o12
              obtain ⟨A12, c12, rfl, -⟩ := own_sl o12
              (refine hK.out _ _ (SBof _ bW) (fun hHeld2 => ?_); clear hK K hHeld; have hHeld := hHeld2; clear hHeld2; try simp only [Act.put, List.getElem_toArray, List.getElem_cons_zero, List.getElem_cons_succ, List.setIfInBounds_toArray, List.set_cons_zero, List.set_cons_succ])
              (refine wpAnyH_ready (rs := [13]) (by kernel_rfl) (by simp) ?_; refine AllReadyH.cons (o := _) rfl (fun K hK => ?_) AllReadyH.nil; go_simp)
              have o6 := World.ownsRow.alloc o6 (.cells #[.slice A12 t.newest.length c12] 54)
              have o12 := World.ownsRow.alloc o12 (.cells #[.slice A12 t.newest.length c12] 54)
              have hba := heap_alloc_new w12 (.cells #[.slice A12 t.newest.length c12] 54)
              have bW2 : Below Y.heap.size Y (w12.alloc (.cells #[.slice A12 t.newest.length c12] 54)) := bW.trans ((Below.refl w12.heap.size w12).alloc (Nat.le_refl _) (.cells #[.slice A12 t.newest.length c12] 54) |>.mono bW.size)
              (refine hK.out _ _ (SBof (w12.alloc (.cells #[.slice A12 t.newest.length c12] 54)) bW2) (fun hHeld2 => ?_); clear hK K hHeld; have hHeld := hHeld2; clear hHeld2; try simp only [Act.put, List.getElem_toArray, List.getElem_cons_zero, List.getElem_cons_succ, List.setIfInBounds_toArray, List.set_cons_zero, List.set_cons_succ])
              obtain ⟨Z5, hZ5⟩ : ∃ Z5, Z5 = w12.alloc (.cells #[.slice A12 t.newest.length c12] 54) := ⟨_, rfl⟩
              rw [← hZ5] at bW2 o6 o12 hba ⊢
              have bW := bW2
              clear bW2 hZ5
              (refine wpAnyH_ready (rs := [14]) (by kernel_rfl) (by simp) ?_; refine AllReadyH.cons (o := _) rfl (fun K hK => ?_) AllReadyH.nil)
              refine step_appG rfl (.tmp 34) (.tmp 41) 55 rfl Try.underlying55 info_sl rfl (by decide) _ vs.length vs _ _ rfl ?_ rfl rfl hba o6 (by omega) (by omega) ?_
              · intro y hy
                simp at hy
                rcases hy with rfl
                rfl
              intro g' c' u1 hown hg1 hloc
              have bW7 : Below Y.heap.size Y u1 := bW.trans ⟨hg1.os, hg1.tape, hg1.output, hg1.size, fun k hk => hg1.block k (Nat.lt_of_lt_of_le hk bW.size) (fun e => by have := o6n k e.symm; omega)⟩
              have o12' := own_same o12 (fun g hg => hg1.block g (o12.lt g hg).2 (fun e => own_ne o12 o6 (by decide) g hg e.symm))
              have M7 := H.out.below bW7
              have f7 := free_blk M7.blk 2
              have M8 := M7.grow (l := t.newest) rfl hown o12'
              have nG : Y.heap.size ≤ g' := hloc.elim (fun e => o6n g' e) (fun e => Nat.le_trans bW.size e)
              have U8 : But G Y (u1.setCell ⟨q, 2, none⟩ (.slice (some ⟨g', 0, none⟩) (vs.length + 1) c')) := (But.of_below bW7).set (p := ⟨q, 2, none⟩) GQ _
              have FIN := Lib.hid (show ∃ (G9 : Nat → Prop) (vr9 v12 : Value), RHalf (u1.setCell ⟨q, 2, none⟩ (.slice (some ⟨g', 0, none⟩) (vs.length + 1) c')) q G9 { t with readers := t.readers ++ [t.newest] } vn vr9 vo vk (vs ++ [v12]) ∧ (∀ g, G9 g → G g ∨ Y.heap.size ≤ g) ∧ But G Y (u1.setCell ⟨q, 2, none⟩ (.slice (some ⟨g', 0, none⟩) (vs.length + 1) c')) from
                ⟨_, _, _, M8, fun g hg => hg.elim .inl (fun hg => .inr (hg.elim (fun e => by
                  have e : some g' = some g := e
                  injection e with e; rw [← e]; exact nG) (o12n g))), U8⟩)
              have S7 := SBof _ bW7
              have S8 := S7.set (.slice (some ⟨g', 0, none⟩) (vs.length + 1) c')
              have y27 : u1.cell? ⟨q, 2, none⟩ = some vr := M7.cells.2.2.1
              clear M7 M8 o12' U8 hown hg1 hloc
              (refine hK.out _ _ S7 (fun hHeld2 => ?_); clear hK K hHeld; have hHeld := hHeld2; clear hHeld2; try simp only [Act.put, List.getElem_toArray, List.getElem_cons_zero, List.getElem_cons_succ, List.setIfInBounds_toArray, List.set_cons_zero, List.set_cons_succ])
              (refine wpAnyH_take (i := 15) (oi := _) (v := ?_) rfl (by kernel_rfl) (by kernel_rfl) (by kernel_rfl) (fun _ _ _ h => h) (Or.inl ⟨?_, ?_⟩) (by assumption) ?_; rotate_left; (focus (first | rfl | (simp [Region.wanted, yielded]; done))); (focus (intro w hSw; (try dsimp only at hSw); go_simp; all_goals (with_reducible rfl))); try simp only [Act.put, List.getElem_toArray, List.getElem_cons_zero, List.getElem_cons_succ, List.setIfInBounds_toArray, List.set_cons_zero, List.set_cons_succ])
              (refine wpAnyH_take (i := 16) (oi := _) (v := ?_) rfl (by kernel_rfl) (by kernel_rfl) (by kernel_rfl) (fun _ _ _ h => h) (Or.inl ⟨?_, ?_⟩) (by assumption) ?_; rotate_left; (focus (first | rfl | (simp [Region.wanted, yielded]; done))); (focus (intro w hSw; (try dsimp only at hSw); go_simp; all_goals (with_reducible rfl))); try simp only [Act.put, List.getElem_toArray, List.getElem_cons_zero, List.getElem_cons_succ, List.setIfInBounds_toArray, List.set_cons_zero, List.set_cons_succ])
              (refine wpAnyH_ready (rs := [17]) (by kernel_rfl) (by simp) ?_; refine AllReadyH.cons (o := _) rfl (fun K hK => ?_) AllReadyH.nil; go_simp)
              (refine hK.out _ _ S8 (fun hHeld2 => ?_); clear hK K hHeld; have hHeld := hHeld2; clear hHeld2; try simp only [Act.put, List.getElem_toArray, List.getElem_cons_zero, List.getElem_cons_succ, List.setIfInBounds_toArray, List.set_cons_zero, List.set_cons_succ])
              (refine wpAnyH_done (by kernel_rfl) ?_ _; refine NoPanic.normal ?_)
              clear hHeld CN
              go_wp2_with fail
              go_meet
              rw [← HY.out]
              exact FIN
          focus
            go_simp
            have b7 : Y.heap.size ≤ Z1.heap.size := bW.size
            have E1 := World.ownsRow.alloc E1 (.cells #[] 68)
            have E7 := own_emptyE Z1 (cs := #[]) rfl 68
            have bW2 : Below Y.heap.size Y (Z1.alloc (.cells #[] 68)) := bW.trans ((Below.refl Z1.heap.size Z1).alloc (Nat.le_refl _) (.cells #[] 68) |>.mono bW.size)
            (refine hK.out _ _ (SBof (Z1.alloc (.cells #[] 68)) bW2) (fun hHeld2 => ?_); clear hK K hHeld; have hHeld := hHeld2; clear hHeld2; try simp only [Act.put, List.getElem_toArray, List.getElem_cons_zero, List.getElem_cons_succ, List.setIfInBounds_toArray, List.set_cons_zero, List.set_cons_succ])
            obtain ⟨Z6, hZ6⟩ : ∃ Z6, Z6 = Z1.alloc (.cells #[] 68) := ⟨_, rfl⟩
            rw [← hZ6] at bW2 E1 E7 ⊢
            have bW := bW2
            clear bW2 hZ6
            have yk5 : Z6.cell? ⟨q, 2, none⟩ = some (.slice Ar vs.length cr) := (World.cell?_of_block (a := ⟨q, 2, none⟩) (bW.block q zqy)).trans yk
            (refine wpAnyH_ready (rs := [5]) (by kernel_rfl) (by simp) ?_; refine AllReadyH.cons (o := _) rfl (fun K hK => ?_) AllReadyH.nil; go_simp)
            (refine hK.out _ _ (SBof (Z6) bW) (fun hHeld2 => ?_); clear hK K hHeld; have hHeld := hHeld2; clear hHeld2; try simp only [Act.put, List.getElem_toArray, List.getElem_cons_zero, List.getElem_cons_succ, List.setIfInBounds_toArray, List.set_cons_zero, List.set_cons_succ])
            (refine wpAnyH_ready (rs := [6]) (by kernel_rfl) (by simp) ?_; refine AllReadyH.cons (o := _) rfl (fun K hK => ?_) AllReadyH.nil)
            refine step_appRS rfl (.tmp 29) (.tmp 33) 55 rfl Try.underlying55 info_sl rfl (by decide) _ 0 [] _ Ar vs.length cr vs ones rfl rfl E1 (rd_drew (RRY.out.below bW)) (by omega) (by omega) (by omega) ?_
            intro v6 w6 o6 g6 l6
            have o6n : ∀ g, v6.ownBlock = some g → Y.heap.size ≤ g := fun g hg => (l6 g hg).elim (fun e => by have e : some (Y.heap.size) = some g := e; injection e with e; omega) (fun e => Nat.le_trans bW.size e)
            have E7 := own_same E7 (fun g hg => g6.block g (E7.lt g hg).2 (fun e => own_ne E7 E1 (by decide) g hg e.symm))
            have bW6 : Below Y.heap.size Y w6 := bW.trans ⟨g6.os, g6.tape, g6.output, g6.size, fun k hk => g6.block k (Nat.lt_of_lt_of_le hk bW.size) (fun e => by have e : some k = some (Y.heap.size) := e; injection e with e; omega)⟩
            have bW := bW6
            clear bW6 g6 l6
            rw [Nat.zero_add, List.nil_append] at o6
            (refine hK.out _ _ (SBof _ bW) (fun hHeld2 => ?_); clear hK K hHeld; have hHeld := hHeld2; clear hHeld2; try simp only [Act.put, List.getElem_toArray, List.getElem_cons_zero, List.getElem_cons_succ, List.setIfInBounds_toArray, List.set_cons_zero, List.set_cons_succ])
            (refine wpAnyH_ready (rs := [12]) (by kernel_rfl) (by simp) ?_; refine AllReadyH.cons (o := _) rfl (fun K hK => ?_) AllReadyH.nil)
            refine step_appRS rfl (.tmp 35) (.tmp 39) 54 rfl Try.underlying54 info_ent rfl (by decide) _ 0 [] _ An t.newest.length cn (entsC t.newest) (ents_one _) rfl rfl E7 (rd_drew (RNY.out.below bW)) (entsC_len _) (by omega) (by omega) ?_
            intro v12 w12 o12 g12 l12
            have o12n : ∀ g, v12.ownBlock = some g → Y.heap.size ≤ g := fun g hg => (l12 g hg).elim (fun e => by have e : some (Z1.heap.size) = some g := e; injection e with e; omega) (fun e => Nat.le_trans bW.size e)
            have o6 := own_same o6 (fun g hg => g12.block g (o6.lt g hg).2 (fun e => own_ne o6 E7 (by decide) g hg e.symm))
            have bW6 : Below Y.heap.size Y w12 := bW.trans ⟨g12.os, g12.tape, g12.output, g12.size, fun k hk => g12.block k (Nat.lt_of_lt_of_le hk bW.size) (fun e => by have e : some k = some (Z1.heap.size) := e; injection e with e; omega)⟩
            have bW := bW6
            clear bW6 g12 l12
            rw [Nat.zero_add, List.nil_append] at o12
            obtain ⟨A12, c12, rfl, -⟩ := own_sl o12
            (refine hK.out _ _ (SBof _ bW) (fun hHeld2 => ?_); clear hK K hHeld; have hHeld := hHeld2; clear hHeld2; try simp only [Act.put, List.getElem_toArray, List.getElem_cons_zero, List.getElem_cons_succ, List.setIfInBounds_toArray, List.set_cons_zero, List.set_cons_succ])
            (refine wpAnyH_ready (rs := [13]) (by kernel_rfl) (by simp) ?_; refine AllReadyH.cons (o := _) rfl (fun K hK => ?_) AllReadyH.nil; go_simp)
            have o6 := World.ownsRow.alloc o6 (.cells #[.slice A12 t.newest.length c12] 54)
            have o12 := World.ownsRow.alloc o12 (.cells #[.slice A12 t.newest.length c12] 54)
            have hba := heap_alloc_new w12 (.cells #[.slice A12 t.newest.length c12] 54)
            have bW2 : Below Y.heap.size Y (w12.alloc (.cells #[.slice A12 t.newest.length c12] 54)) := bW.trans ((Below.refl w12.heap.size w12).alloc (Nat.le_refl _) (.cells #[.slice A12 t.newest.length c12] 54) |>.mono bW.size)
            (refine hK.out _ _ (SBof (w12.alloc (.cells #[.slice A12 t.newest.length c12] 54)) bW2) (fun hHeld2 => ?_); clear hK K hHeld; have hHeld := hHeld2; clear hHeld2; try simp only [Act.put, List.getElem_toArray, List.getElem_cons_zero, List.getElem_cons_succ, List.setIfInBounds_toArray, List.set_cons_zero, List.set_cons_succ])
            obtain ⟨Z7, hZ7⟩ : ∃ Z7, Z7 = w12.alloc (.cells #[.slice A12 t.newest.length c12] 54) := ⟨_, rfl⟩
            rw [← hZ7] at bW2 o6 o12 hba ⊢
            have bW := bW2
            clear bW2 hZ7
            (refine wpAnyH_ready (rs := [14]) (by kernel_rfl) (by simp) ?_; refine AllReadyH.cons (o := _) rfl (fun K hK => ?_) AllReadyH.nil)
            refine step_appG rfl (.tmp 34) (.tmp 41) 55 rfl Try.underlying55 info_sl rfl (by decide) _ vs.length vs _ _ rfl ?_ rfl rfl hba o6 (by omega) (by omega) ?_
            · intro y hy
              simp at hy
              rcases hy with rfl
              rfl
            intro g' c' u1 hown hg1 hloc
            have bW7 : Below Y.heap.size Y u1 := bW.trans ⟨hg1.os, hg1.tape, hg1.output, hg1.size, fun k hk => hg1.block k (Nat.lt_of_lt_of_le hk bW.size) (fun e => by have := o6n k e.symm; omega)⟩
            have o12' := own_same o12 (fun g hg => hg1.block g (o12.lt g hg).2 (fun e => own_ne o12 o6 (by decide) g hg e.symm))
            have M7 := H.out.below bW7
            have f7 := free_blk M7.blk 2
            have M8 := M7.grow (l := t.newest) rfl hown o12'
            have nG : Y.heap.size ≤ g' := hloc.elim (fun e => o6n g' e) (fun e => Nat.le_trans bW.size e)
            have U8 : But G Y (u1.setCell ⟨q, 2, none⟩ (.slice (some ⟨g', 0, none⟩) (vs.length + 1) c')) := (But.of_below bW7).set (p := ⟨q, 2, none⟩) GQ _
            have FIN := Lib.hid (show ∃ (G9 : Nat → Prop) (vr9 v12 : Value), RHalf (u1.setCell ⟨q, 2, none⟩ (.slice (some ⟨g', 0, none⟩) (vs.length + 1) c')) q G9 { t with readers := t.readers ++ [t.newest] } vn vr9 vo vk (vs ++ [v12]) ∧ (∀ g, G9 g → G g ∨ Y.heap.size ≤ g) ∧ But G Y (u1.setCell ⟨q, 2, none⟩ (.slice (some ⟨g', 0, none⟩) (vs.length + 1) c')) from
              ⟨_, _, _, M8, fun g hg => hg.elim .inl (fun hg => .inr (hg.elim (fun e => by
                have e : some g' = some g := e
                injection e with e; rw [← e]; exact nG) (o12n g))), U8⟩)
            have S7 := SBof _ bW7
            have S8 := S7.set (.slice (some ⟨g', 0, none⟩) (vs.length + 1) c')
            have y27 : u1.cell? ⟨q, 2, none⟩ = some vr := M7.cells.2.2.1
            clear M7 M8 o12' U8 hown hg1 hloc
            (refine hK.out _ _ S7 (fun hHeld2 => ?_); clear hK K hHeld; have hHeld := hHeld2; clear hHeld2; try simp only [Act.put, List.getElem_toArray, List.getElem_cons_zero, List.getElem_cons_succ, List.setIfInBounds_toArray, List.set_cons_zero, List.set_cons_succ])
            (refine wpAnyH_take (i := 15) (oi := _) (v := ?_) rfl (by kernel_rfl) (by kernel_rfl) (by kernel_rfl) (fun _ _ _ h => h) (Or.inl ⟨?_, ?_⟩) (by assumption) ?_; rotate_left; (focus (first | rfl | (simp [Region.wanted, yielded]; done))); (focus (intro w hSw; (try dsimp only at hSw); go_simp; all_goals (with_reducible rfl))); try simp only [Act.put, List.getElem_toArray, List.getElem_cons_zero, List.getElem_cons_succ, List.setIfInBounds_toArray, List.set_cons_zero, List.set_cons_succ])
            (refine wpAnyH_take (i := 16) (oi := _) (v := ?_) rfl (by kernel_rfl) (by kernel_rfl) (by kernel_rfl) (fun _ _ _ h => h) (Or.inl ⟨?_, ?_⟩) (by assumption) ?_; rotate_left; (focus (first | rfl | (simp [Region.wanted, yielded]; done))); (focus (intro w hSw; (try dsimp only at hSw); go_simp; all_goals (with_reducible rfl))); try simp only [Act.put, List.getElem_toArray, List.getElem_cons_zero, List.getElem_cons_succ, List.setIfInBounds_toArray, List.set_cons_zero, List.set_cons_succ])
            (refine wpAnyH_ready (rs := [17]) (by kernel_rfl) (by simp) ?_; refine AllReadyH.cons (o := _) rfl (fun K hK => ?_) AllReadyH.nil; go_simp)
            (refine hK.out _ _ S8 (fun hHeld2 => ?_); clear hK K hHeld; have hHeld := hHeld2; clear hHeld2; try simp only [Act.put, List.getElem_toArray, List.getElem_cons_zero, List.getElem_cons_succ, List.setIfInBounds_toArray, List.set_cons_zero, List.set_cons_succ])
            (refine wpAnyH_done (by kernel_rfl) ?_ _; refine NoPanic.normal ?_)
            clear hHeld CN
            go_wp2_with fail
            go_meet
            rw [← HY.out]
            exact FIN
        focus
          have yk5 : Y.cell? ⟨q, 2, none⟩ = some (.slice Ar vs.length cr) := (World.cell?_of_block (a := ⟨q, 2, none⟩) (bW.block q zqy)).trans yk
          go_simp
          (refine hK.out _ _ (SBof (Y) bW) (fun hHeld2 => ?_); clear hK K hHeld; have hHeld := hHeld2; clear hHeld2; try simp only [Act.put, List.getElem_toArray, List.getElem_cons_zero, List.getElem_cons_succ, List.setIfInBounds_toArray, List.set_cons_zero, List.set_cons_succ])
          (refine wpAnyH_ready (rs := [1, 7]) (by kernel_rfl) (by simp) ?_; refine AllReadyH.cons (o := _) rfl (fun K hK => ?_) (AllReadyH.cons (o := _) rfl (fun K hK => ?_) AllReadyH.nil))
          focus
            go_simp
            have b1 : Y.heap.size ≤ Y.heap.size := bW.size
            have E1 := own_emptyL Y (cs := #[]) rfl 54
            have bW2 : Below Y.heap.size Y (Y.alloc (.cells #[] 54)) := bW.trans ((Below.refl Y.heap.size Y).alloc (Nat.le_refl _) (.cells #[] 54) |>.mono bW.size)
            (refine hK.out _ _ (SBof (Y.alloc (.cells #[] 54)) bW2) (fun hHeld2 => ?_); clear hK K hHeld; have hHeld := hHeld2; clear hHeld2; try simp only [Act.put, List.getElem_toArray, List.getElem_cons_zero, List.getElem_cons_succ, List.setIfInBounds_toArray, List.set_cons_zero, List.set_cons_succ])
            obtain ⟨Z8, hZ8⟩ : ∃ Z8, Z8 = Y.alloc (.cells #[] 54) := ⟨_, rfl⟩
            rw [← hZ8] at bW2 E1 ⊢
            have bW := bW2
            clear bW2 hZ8
            (refine wpAnyH_ready (rs := [6, 7]) (by kernel_rfl) (by simp) ?_; refine AllReadyH.cons (o := _) rfl (fun K hK => ?_) (AllReadyH.cons (o := _) rfl (fun K hK => ?_) AllReadyH.nil))
            focus
              refine step_appRS rfl (.tmp 29) (.tmp 33) 55 rfl Try.underlying55 info_sl rfl (by decide) _ 0 [] _ Ar vs.length cr vs ones rfl rfl E1 (rd_drew (RRY.out.below bW)) (by omega) (by omega) (by omega) ?_
              intro v6 w6 o6 g6 l6
              have o6n : ∀ g, v6.ownBlock = some g → Y.heap.size ≤ g := fun g hg => (l6 g hg).elim (fun e => by have e : some (Y.heap.size) = some g := e; injection e with e; omega) (fun e => Nat.le_trans bW.size e)
              have bW6 : Below Y.heap.size Y w6 := bW.trans ⟨g6.os, g6.tape, g6.output, g6.size, fun k hk => g6.block k (Nat.lt_of_lt_of_le hk bW.size) (fun e => by have e : some k = some (Y.heap.size) := e; injection e with e; omega)⟩
              have bW := bW6
              clear bW6 g6 l6
              rw [Nat.zero_add, List.nil_append] at o6
              (refine hK.out _ _ (SBof _ bW) (fun hHeld2 => ?_); clear hK K hHeld; have hHeld := hHeld2; clear hHeld2; try simp only [Act.put, List.getElem_toArray, List.getElem_cons_zero, List.getElem_cons_succ, List.setIfInBounds_toArray, List.set_cons_zero, List.set_cons_succ])
              (refine wpAnyH_ready (rs := [7]) (by kernel_rfl) (by simp) ?_; refine AllReadyH.cons (o := _) rfl (fun K hK => ?_) AllReadyH.nil; go_simp)
              have b7 : Y.heap.size ≤ w6.heap.size := bW.size
              have o6 := World.ownsRow.alloc o6 (.cells #[] 68)
              have E7 := own_emptyE w6 (cs := #[]) rfl 68
              have bW2 : Below Y.heap.size Y (w6.alloc (.cells #[] 68)) := bW.trans ((Below.refl w6.heap.size w6).alloc (Nat.le_refl _) (.cells #[] 68) |>.mono bW.size)
              (refine hK.out _ _ (SBof (w6.alloc (.cells #[] 68)) bW2) (fun hHeld2 => ?_); clear hK K hHeld; have hHeld := hHeld2; clear hHeld2; try simp only [Act.put, List.getElem_toArray, List.getElem_cons_zero, List.getElem_cons_succ, List.setIfInBounds_toArray, List.set_cons_zero, List.set_cons_succ])
              obtain ⟨Z9, hZ9⟩ : ∃ Z9, Z9 = w6.alloc (.cells #[] 68) := ⟨_, rfl⟩
              rw [← hZ9] at bW2 o6 E7 ⊢
              have bW := bW2
              clear bW2 hZ9
              (refine wpAnyH_ready (rs := [12]) (by kernel_rfl) (by simp) ?_; refine AllReadyH.cons (o := _) rfl (fun K hK => ?_) AllReadyH.nil)
              refine step_appRS rfl (.tmp 35) (.tmp 39) 54 rfl Try.underlying54 info_ent rfl (by decide) _ 0 [] _ An t.newest.length cn (entsC t.newest) (ents_one _) rfl rfl E7 (rd_drew (RNY.out.below bW)) (entsC_len _) (by omega) (by omega) ?_
              intro v12 w12 o12 g12 l12
              have o12n : ∀ g, v12.ownBlock = some g → Y.heap.size ≤ g := fun g hg => (l12 g hg).elim (fun e => by have e : some (w6.heap.size) = some g := e; injection e with e; omega) (fun e => Nat.le_trans bW.size e)
              have o6 := own_same o6 (fun g hg => g12.block g (o6.lt g hg).2 (fun e => own_ne o6 E7 (by decide) g hg e.symm))
              have bW6 : Below Y.heap.size Y w12 := bW.trans ⟨g12.os, g12.tape, g12.output, g12.size, fun k hk => g12.block k (Nat.lt_of_lt_of_le hk bW.size) (fun e => by have e : some k = some (w6.heap.size) := e; injection e with e; omega)⟩
              have bW := bW6
              clear bW6 g12 l12
              rw [Nat.zero_add, List.nil_append] at o12
              obtain ⟨A12, c12, rfl, -⟩ := own_sl o12
              (refine hK.out _ _ (SBof _ bW) (fun hHeld2 => ?_); clear hK K hHeld; have hHeld := hHeld2; clear hHeld2; try simp only [Act.put, List.getElem_toArray, List.getElem_cons_zero, List.getElem_cons_succ, List.setIfInBounds_toArray, List.set_cons_zero, List.set_cons_succ])
              (refine wpAnyH_ready (rs := [13]) (by kernel_rfl) (by simp) ?_; refine AllReadyH.cons (o := _) rfl (fun K hK => ?_) AllReadyH.nil; go_simp)
              have o6 := World.ownsRow.alloc o6 (.cells #[.slice A12 t.newest.length c12] 54)
              have o12 := World.ownsRow.alloc o12 (.cells #[.slice A12 t.newest.length c12] 54)
              have hba := heap_alloc_new w12 (.cells #[.slice A12 t.newest.length c12] 54)
              have bW2 : Below Y.heap.size Y (w12.alloc (.cells #[.slice A12 t.newest.length c12] 54)) := bW.trans ((Below.refl w12.heap.size w12).alloc (Nat.le_refl _) (.cells #[.slice A12 t.newest.length c12] 54) |>.mono bW.size)
              (refine hK.out _ _ (SBof (w12.alloc (.cells #[.slice A12 t.newest.length c12] 54)) bW2) (fun hHeld2 => ?_); clear hK K hHeld; have hHeld := hHeld2; clear hHeld2; try simp only [Act.put, List.getElem_toArray, List.getElem_cons_zero, List.getElem_cons_succ, List.setIfInBounds_toArray, List.set_cons_zero, List.set_cons_succ])
              obtain ⟨Z10, hZ10⟩ : ∃ Z10, Z10 = w12.alloc (.cells #[.slice A12 t.newest.length c12] 54) := ⟨_, rfl⟩
              rw [← hZ10] at bW2 o6 o12 hba ⊢
              have bW := bW2
              clear bW2 hZ10
              (refine wpAnyH_ready (rs := [14]) (by kernel_rfl) (by simp) ?_; refine AllReadyH.cons (o := _) rfl (fun K hK => ?_) AllReadyH.nil)
              refine step_appG rfl (.tmp 34) (.tmp 41) 55 rfl Try.underlying55 info_sl rfl (by decide) _ vs.length vs _ _ rfl ?_ rfl rfl hba o6 (by omega) (by omega) ?_
              · intro y hy
                simp at hy
                rcases hy with rfl
                rfl
              intro g' c' u1 hown hg1 hloc
              have bW7 : Below Y.heap.size Y u1 := bW.trans ⟨hg1.os, hg1.tape, hg1.output, hg1.size, fun k hk => hg1.block k (Nat.lt_of_lt_of_le hk bW.size) (fun e => by have := o6n k e.symm; omega)⟩
              have o12' := own_same o12 (fun g hg => hg1.block g (o12.lt g hg).2 (fun e => own_ne o12 o6 (by decide) g hg e.symm))
              have M7 := H.out.below bW7
              have f7 := free_blk M7.blk 2
              have M8 := M7.grow (l := t.newest) rfl hown o12'
              have nG : Y.heap.size ≤ g' := hloc.elim (fun e => o6n g' e) (fun e => Nat.le_trans bW.size e)
              have U8 : But G Y (u1.setCell ⟨q, 2, none⟩ (.slice (some ⟨g', 0, none⟩) (vs.length + 1) c')) := (But.of_below bW7).set (p := ⟨q, 2, none⟩) GQ _
              have FIN := Lib.hid (show ∃ (G9 : Nat → Prop) (vr9 v12 : Value), RHalf (u1.setCell ⟨q, 2, none⟩ (.slice (some ⟨g', 0, none⟩) (vs.length + 1) c')) q G9 { t with readers := t.readers ++ [t.newest] } vn vr9 vo vk (vs ++ [v12]) ∧ (∀ g, G9 g → G g ∨ Y.heap.size ≤ g) ∧ But G Y (u1.setCell ⟨q, 2, none⟩ (.slice (some ⟨g', 0, none⟩) (vs.length + 1) c')) from
                ⟨_, _, _, M8, fun g hg => hg.elim .inl (fun hg => .inr (hg.elim (fun e => by
                  have e : some g' = some g := e
                  injection e with e; rw [← e]; exact nG) (o12n g))), U8⟩)
              have S7 := SBof _ bW7
              have S8 := S7.set (.slice (some ⟨g', 0, none⟩) (vs.length + 1) c')
              have y27 : u1.cell? ⟨q, 2, none⟩ = some vr := M7.cells.2.2.1
              clear M7 M8 o12' U8 hown hg1 hloc
              (refine hK.out _ _ S7 (fun hHeld2 => ?_); clear hK K hHeld; have hHeld := hHeld2; clear hHeld2; try simp only [Act.put, List.getElem_toArray, List.getElem_cons_zero, List.getElem_cons_succ, List.setIfInBounds_toArray, List.set_cons_zero, List.set_cons_succ])
              (refine wpAnyH_take (i := 15) (oi := _) (v := ?_) rfl (by kernel_rfl) (by kernel_rfl) (by kernel_rfl) (fun _ _ _ h => h) (Or.inl ⟨?_, ?_⟩) (by assumption) ?_; rotate_left; (focus (first | rfl | (simp [Region.wanted, yielded]; done))); (focus (intro w hSw; (try dsimp only at hSw); go_simp; all_goals (with_reducible rfl))); try simp only [Act.put, List.getElem_toArray, List.getElem_cons_zero, List.getElem_cons_succ, List.setIfInBounds_toArray, List.set_cons_zero, List.set_cons_succ])
              (refine wpAnyH_take (i := 16) (oi := _) (v := ?_) rfl (by kernel_rfl) (by kernel_rfl) (by kernel_rfl) (fun _ _ _ h => h) (Or.inl ⟨?_, ?_⟩) (by assumption) ?_; rotate_left; (focus (first | rfl | (simp [Region.wanted, yielded]; done))); (focus (intro w hSw; (try dsimp only at hSw); go_simp; all_goals (with_reducible rfl))); try simp only [Act.put, List.getElem_toArray, List.getElem_cons_zero, List.getElem_cons_succ, List.setIfInBounds_toArray, List.set_cons_zero, List.set_cons_succ])
              (refine wpAnyH_ready (rs := [17]) (by kernel_rfl) (by simp) ?_; refine AllReadyH.cons (o := _) rfl (fun K hK => ?_) AllReadyH.nil; go_simp)
              (refine hK.out _ _ S8 (fun hHeld2 => ?_); clear hK K hHeld; have hHeld := hHeld2; clear hHeld2; try simp only [Act.put, List.getElem_toArray, List.getElem_cons_zero, List.getElem_cons_succ, List.setIfInBounds_toArray, List.set_cons_zero, List.set_cons_succ])
              (refine wpAnyH_done (by kernel_rfl) ?_ _; refine NoPanic.normal ?_)
              clear hHeld CN
              go_wp2_with fail
              go_meet
              rw [← HY.out]
              exact FIN
            focus
              go_simp
              have b7 : Y.heap.size ≤ Z8.heap.size := bW.size
              have E1 := World.ownsRow.alloc E1 (.cells #[] 68)
              have E7 := own_emptyE Z8 (cs := #[]) rfl 68
              have bW2 : Below Y.heap.size Y (Z8.alloc (.cells #[] 68)) := bW.trans ((Below.refl Z8.heap.size Z8).alloc (Nat.le_refl _) (.cells #[] 68) |>.mono bW.size)
              (refine hK.out _ _ (SBof (Z8.alloc (.cells #[] 68)) bW2) (fun hHeld2 => ?_); clear hK K hHeld; have hHeld := hHeld2; clear hHeld2; try simp only [Act.put, List.getElem_toArray, List.getElem_cons_zero, List.getElem_cons_succ, List.setIfInBounds_toArray, List.set_cons_zero, List.set_cons_succ])
              obtain ⟨Z11, hZ11⟩ : ∃ Z11, Z11 = Z8.alloc (.cells #[] 68) := ⟨_, rfl⟩
              rw [← hZ11] at bW2 E1 E7 ⊢
              have bW := bW2
              clear bW2 hZ11
              (refine wpAnyH_ready (rs := [6]) (by kernel_rfl) (by simp) ?_; refine AllReadyH.cons (o := _) rfl (fun K hK => ?_) AllReadyH.nil)
              refine step_appRS rfl (.tmp 29) (.tmp 33) 55 rfl Try.underlying55 info_sl rfl (by decide) _ 0 [] _ Ar vs.length cr vs ones rfl rfl E1 (rd_drew (RRY.out.below bW)) (by omega) (by omega) (by omega) ?_
              intro v6 w6 o6 g6 l6
              have o6n : ∀ g, v6.ownBlock = some g → Y.heap.size ≤ g := fun g hg => (l6 g hg).elim (fun e => by have e : some (Y.heap.size) = some g := e; injection e with e; omega) (fun e => Nat.le_trans bW.size e)
              have E7 := own_same E7 (fun g hg => g6.block g (E7.lt g hg).2 (fun e => own_ne E7 E1 (by decide) g hg e.symm))
              have bW6 : Below Y.heap.size Y w6 := bW.trans ⟨g6.os, g6.tape, g6.output, g6.size, fun k hk => g6.block k (Nat.lt_of_lt_of_le hk bW.size) (fun e => by have e : some k = some (Y.heap.size) := e; injection e with e; omega)⟩
              have bW := bW6
              clear bW6 g6 l6
              rw [Nat.zero_add, List.nil_append] at o6
              (refine hK.out _ _ (SBof _ bW) (fun hHeld2 => ?_); clear hK K hHeld; have hHeld := hHeld2; clear hHeld2; try simp only [Act.put, List.getElem_toArray, List.getElem_cons_zero, List.getElem_cons_succ, List.setIfInBounds_toArray, List.set_cons_zero, List.set_cons_succ])
              (refine wpAnyH_ready (rs := [12]) (by kernel_rfl) (by simp) ?_; refine AllReadyH.cons (o := _) rfl (fun K hK => ?_) AllReadyH.nil)
              refine step_appRS rfl (.tmp 35) (.tmp 39) 54 rfl Try.underlying54 info_ent rfl (by decide) _ 0 [] _ An t.newest.length cn (entsC t.newest) (ents_one _) rfl rfl E7 (rd_drew (RNY.out.below bW)) (entsC_len _) (by omega) (by omega) ?_
              intro v12 w12 o12 g12 l12
              have o12n : ∀ g, v12.ownBlock = some g → Y.heap.size ≤ g := fun g hg => (l12 g hg).elim (fun e => by have e : some (Z8.heap.size) = some g := e; injection e with e; omega) (fun e => Nat.le_trans bW.size e)
              have o6 := own_same o6 (fun g hg => g12.block g (o6.lt g hg).2 (fun e => own_ne o6 E7 (by decide) g hg e.symm))
              have bW6 : Below Y.heap.size Y w12 := bW.trans ⟨g12.os, g12.tape, g12.output, g12.size, fun k hk => g12.block k (Nat.lt_of_lt_of_le hk bW.size) (fun e => by have e : some k = some (Z8.heap.size) := e; injection e with e; omega)⟩
              have bW := bW6
              clear bW6 g12 l12
              rw [Nat.zero_add, List.nil_append] at o12
              obtain ⟨A12, c12, rfl, -⟩ := own_sl o12
              (refine hK.out _ _ (SBof _ bW) (fun hHeld2 => ?_); clear hK K hHeld; have hHeld := hHeld2; clear hHeld2; try simp only [Act.put, List.getElem_toArray, List.getElem_cons_zero, List.getElem_cons_succ, List.setIfInBounds_toArray, List.set_cons_zero, List.set_cons_succ])
              (refine wpAnyH_ready (rs := [13]) (by kernel_rfl) (by simp) ?_; refine AllReadyH.cons (o := _) rfl (fun K hK => ?_) AllReadyH.nil; go_simp)
              have o6 := World.ownsRow.alloc o6 (.cells #[.slice A12 t.newest.length c12] 54)
              have o12 := World.ownsRow.alloc o12 (.cells #[.slice A12 t.newest.length c12] 54)
              have hba := heap_alloc_new w12 (.cells #[.slice A12 t.newest.length c12] 54)
              have bW2 : Below Y.heap.size Y (w12.alloc (.cells #[.slice A12 t.newest.length c12] 54)) := bW.trans ((Below.refl w12.heap.size w12).alloc (Nat.le_refl _) (.cells #[.slice A12 t.newest.length c12] 54) |>.mono bW.size)
              (refine hK.out _ _ (SBof (w12.alloc (.cells #[.slice A12 t.newest.length c12] 54)) bW2) (fun hHeld2 => ?_); clear hK K hHeld; have hHeld := hHeld2; clear hHeld2; try simp only [Act.put, List.getElem_toArray, List.getElem_cons_zero, List.getElem_cons_succ, List.setIfInBounds_toArray, List.set_cons_zero, List.set_cons_succ])
              obtain ⟨Z12, hZ12⟩ : ∃ Z12, Z12 = w12.alloc (.cells #[.slice A12 t.newest.length c12] 54) := ⟨_, rfl⟩
              rw [← hZ12] at bW2 o6 o12 hba ⊢
              have bW := bW2
              clear bW2 hZ12
              (refine wpAnyH_ready (rs := [14]) (by kernel_rfl) (by simp) ?_; refine AllReadyH.cons (o := _) rfl (fun K hK => ?_) AllReadyH.nil)
              refine step_appG rfl (.tmp 34) (.tmp 41) 55 rfl Try.underlying55 info_sl rfl (by decide) _ vs.length vs _ _ rfl ?_ rfl rfl hba o6 (by omega) (by omega) ?_
              · intro y hy
                simp at hy
                rcases hy with rfl
                rfl
              intro g' c' u1 hown hg1 hloc
              have bW7 : Below Y.heap.size Y u1 := bW.trans ⟨hg1.os, hg1.tape, hg1.output, hg1.size, fun k hk => hg1.block k (Nat.lt_of_lt_of_le hk bW.size) (fun e => by have := o6n k e.symm; omega)⟩
              have o12' := own_same o12 (fun g hg => hg1.block g (o12.lt g hg).2 (fun e => own_ne o12 o6 (by decide) g hg e.symm))
              have M7 := H.out.below bW7
              have f7 := free_blk M7.blk 2
              have M8 := M7.grow (l := t.newest) rfl hown o12'
              have nG : Y.heap.size ≤ g' := hloc.elim (fun e => o6n g' e) (fun e => Nat.le_trans bW.size e)
              have U8 : But G Y (u1.setCell ⟨q, 2, none⟩ (.slice (some ⟨g', 0, none⟩) (vs.length + 1) c')) := (But.of_below bW7).set (p := ⟨q, 2, none⟩) GQ _
              have FIN := Lib.hid (show ∃ (G9 : Nat → Prop) (vr9 v12 : Value), RHalf (u1.setCell ⟨q, 2, none⟩ (.slice (some ⟨g', 0, none⟩) (vs.length + 1) c')) q G9 { t with readers := t.readers ++ [t.newest] } vn vr9 vo vk (vs ++ [v12]) ∧ (∀ g, G9 g → G g ∨ Y.heap.size ≤ g) ∧ But G Y (u1.setCell ⟨q, 2, none⟩ (.slice (some ⟨g', 0, none⟩) (vs.length + 1) c')) from
                ⟨_, _, _, M8, fun g hg => hg.elim .inl (fun hg => .inr (hg.elim (fun e => by
                  have e : some g' = some g := e
                  injection e with e; rw [← e]; exact nG) (o12n g))), U8⟩)
              have S7 := SBof _ bW7
              have S8 := S7.set (.slice (some ⟨g', 0, none⟩) (vs.length + 1) c')
              have y27 : u1.cell? ⟨q, 2, none⟩ = some vr := M7.cells.2.2.1
              clear M7 M8 o12' U8 hown hg1 hloc
              (refine hK.out _ _ S7 (fun hHeld2 => ?_); clear hK K hHeld; have hHeld := hHeld2; clear hHeld2; try simp only [Act.put, List.getElem_toArray, List.getElem_cons_zero, List.getElem_cons_succ, List.setIfInBounds_toArray, List.set_cons_zero, List.set_cons_succ])
              (refine wpAnyH_take (i := 15) (oi := _) (v := ?_) rfl (by kernel_rfl) (by kernel_rfl) (by kernel_rfl) (fun _ _ _ h => h) (Or.inl ⟨?_, ?_⟩) (by assumption) ?_; rotate_left; (focus (first | rfl | (simp [Region.wanted, yielded]; done))); (focus (intro w hSw; (try dsimp only at hSw); go_simp; all_goals (with_reducible rfl))); try simp only [Act.put, List.getElem_toArray, List.getElem_cons_zero, List.getElem_cons_succ, List.setIfInBounds_toArray, List.set_cons_zero, List.set_cons_succ])
              (refine wpAnyH_take (i := 16) (oi := _) (v := ?_) rfl (by kernel_rfl) (by kernel_rfl) (by kernel_rfl) (fun _ _ _ h => h) (Or.inl ⟨?_, ?_⟩) (by assumption) ?_; rotate_left; (focus (first | rfl | (simp [Region.wanted, yielded]; done))); (focus (intro w hSw; (try dsimp only at hSw); go_simp; all_goals (with_reducible rfl))); try simp only [Act.put, List.getElem_toArray, List.getElem_cons_zero, List.getElem_cons_succ, List.setIfInBounds_toArray, List.set_cons_zero, List.set_cons_succ])
              (refine wpAnyH_ready (rs := [17]) (by kernel_rfl) (by simp) ?_; refine AllReadyH.cons (o := _) rfl (fun K hK => ?_) AllReadyH.nil; go_simp)
              (refine hK.out _ _ S8 (fun hHeld2 => ?_); clear hK K hHeld; have hHeld := hHeld2; clear hHeld2; try simp only [Act.put, List.getElem_toArray, List.getElem_cons_zero, List.getElem_cons_succ, List.setIfInBounds_toArray, List.set_cons_zero, List.set_cons_succ])
              (refine wpAnyH_done (by kernel_rfl) ?_ _; refine NoPanic.normal ?_)
              clear hHeld CN
              go_wp2_with fail
              go_meet
              rw [← HY.out]
              exact FIN
          focus
            go_simp
            have b7 : Y.heap.size ≤ Y.heap.size := bW.size
            have E7 := own_emptyE Y (cs := #[]) rfl 68
            have bW2 : Below Y.heap.size Y (Y.alloc (.cells #[] 68)) := bW.trans ((Below.refl Y.heap.size Y).alloc (Nat.le_refl _) (.cells #[] 68) |>.mono bW.size)
            (refine hK.out _ _ (SBof (Y.alloc (.cells #[] 68)) bW2) (fun hHeld2 => ?_); clear hK K hHeld; have hHeld := hHeld2; clear hHeld2; try simp only [Act.put, List.getElem_toArray, List.getElem_cons_zero, List.getElem_cons_succ, List.setIfInBounds_toArray, List.set_cons_zero, List.set_cons_succ])
            obtain ⟨Z13, hZ13⟩ : ∃ Z13, Z13 = Y.alloc (.cells #[] 68) := ⟨_, rfl⟩
            rw [← hZ13] at bW2 E7 ⊢
            have bW := bW2
            clear bW2 hZ13
            (refine wpAnyH_ready (rs := [1]) (by kernel_rfl) (by simp) ?_; refine AllReadyH.cons (o := _) rfl (fun K hK => ?_) AllReadyH.nil; go_simp)
            have b1 : Y.heap.size ≤ Z13.heap.size := bW.size
            have E7 := World.ownsRow.alloc E7 (.cells #[] 54)
            have E1 := own_emptyL Z13 (cs := #[]) rfl 54
            have bW2 : Below Y.heap.size Y (Z13.alloc (.cells #[] 54)) := bW.trans ((Below.refl Z13.heap.size Z13).alloc (Nat.le_refl _) (.cells #[] 54) |>.mono bW.size)
            (refine hK.out _ _ (SBof (Z13.alloc (.cells #[] 54)) bW2) (fun hHeld2 => ?_); clear hK K hHeld; have hHeld := hHeld2; clear hHeld2; try simp only [Act.put, List.getElem_toArray, List.getElem_cons_zero, List.getElem_cons_succ, List.setIfInBounds_toArray, List.set_cons_zero, List.set_cons_succ])
            obtain ⟨Z14, hZ14⟩ : ∃ Z14, Z14 = Z13.alloc (.cells #[] 54) := ⟨_, rfl⟩
            rw [← hZ14] at bW2 E1 E7 ⊢
            have bW := bW2
            clear bW2 hZ14
            (refine wpAnyH_ready (rs := [6]) (by kernel_rfl) (by simp) ?_; refine AllReadyH.cons (o := _) rfl (fun K hK => ?_) AllReadyH.nil)
            refine step_appRS rfl (.tmp 29) (.tmp 33) 55 rfl Try.underlying55 info_sl rfl (by decide) _ 0 [] _ Ar vs.length cr vs ones rfl rfl E1 (rd_drew (RRY.out.below bW)) (by omega) (by omega) (by omega) ?_
            intro v6 w6 o6 g6 l6
            have o6n : ∀ g, v6.ownBlock = some g → Y.heap.size ≤ g := fun g hg => (l6 g hg).elim (fun e => by have e : some (Z13.heap.size) = some g := e; injection e with e; omega) (fun e => Nat.le_trans bW.size e)
            have E7 := own_same E7 (fun g hg => g6.block g (E7.lt g hg).2 (fun e => own_ne E7 E1 (by decide) g hg e.symm))
            have bW6 : Below Y.heap.size Y w6 := bW.trans ⟨g6.os, g6.tape, g6.output, g6.size, fun k hk => g6.block k (Nat.lt_of_lt_of_le hk bW.size) (fun e => by have e : some k = some (Z13.heap.size) := e; injection e with e; omega)⟩
            have bW := bW6
            clear bW6 g6 l6
            rw [Nat.zero_add, List.nil_append] at o6
            (refine hK.out _ _ (SBof _ bW) (fun hHeld2 => ?_); clear hK K hHeld; have hHeld := hHeld2; clear hHeld2; try simp only [Act.put, List.getElem_toArray, List.getElem_cons_zero, List.getElem_cons_succ, List.setIfInBounds_toArray, List.set_cons_zero, List.set_cons_succ])
            (refine wpAnyH_ready (rs := [12]) (by kernel_rfl) (by simp) ?_; refine AllReadyH.cons (o := _) rfl (fun K hK => ?_) AllReadyH.nil)
            refine step_appRS rfl (.tmp 35) (.tmp 39) 54 rfl Try.underlying54 info_ent rfl (by decide) _ 0 [] _ An t.newest.length cn (entsC t.newest) (ents_one _) rfl rfl E7 (rd_drew (RNY.out.below bW)) (entsC_len _) (by omega) (by omega) ?_
            intro v12 w12 o12 g12 l12
            have o12n : ∀ g, v12.ownBlock = some g → Y.heap.size ≤ g := fun g hg => (l12 g hg).elim (fun e => by have e : some (Y.heap.size) = some g := e; injection e with e; omega) (fun e => Nat.le_trans bW.size e)
            have o6 := own_same o6 (fun g hg => g12.block g (o6.lt g hg).2 (fun e => own_ne o6 E7 (by decide) g hg e.symm))
            have bW6 : Below Y.heap.size Y w12 := bW.trans ⟨g12.os, g12.tape, g12.output, g12.size, fun k hk => g12.block k (Nat.lt_of_lt_of_le hk bW.size) (fun e => by have e : some k = some (Y.heap.size) := e; injection e with e; omega)⟩
            have bW := bW6
            clear bW6 g12 l12
            rw [Nat.zero_add, List.nil_append] at o12
            obtain ⟨A12, c12, rfl, -⟩ := own_sl o12
            (refine hK.out _ _ (SBof _ bW) (fun hHeld2 => ?_); clear hK K hHeld; have hHeld := hHeld2; clear hHeld2; try simp only [Act.put, List.getElem_toArray, List.getElem_cons_zero, List.getElem_cons_succ, List.setIfInBounds_toArray, List.set_cons_zero, List.set_cons_succ])
            (refine wpAnyH_ready (rs := [13]) (by kernel_rfl) (by simp) ?_; refine AllReadyH.cons (o := _) rfl (fun K hK => ?_) AllReadyH.nil; go_simp)
            have o6 := World.ownsRow.alloc o6 (.cells #[.slice A12 t.newest.length c12] 54)
            have o12 := World.ownsRow.alloc o12 (.cells #[.slice A12 t.newest.length c12] 54)
            have hba := heap_alloc_new w12 (.cells #[.slice A12 t.newest.length c12] 54)
            have bW2 : Below Y.heap.size Y (w12.alloc (.cells #[.slice A12 t.newest.length c12] 54)) := bW.trans ((Below.refl w12.heap.size w12).alloc (Nat.le_refl _) (.cells #[.slice A12 t.newest.length c12] 54) |>.mono bW.size)
            (refine hK.out _ _ (SBof (w12.alloc (.cells #[.slice A12 t.newest.length c12] 54)) bW2) (fun hHeld2 => ?_); clear hK K hHeld; have hHeld := hHeld2; clear hHeld2; try simp only [Act.put, List.getElem_toArray, List.getElem_cons_zero, List.getElem_cons_succ, List.setIfInBounds_toArray, List.set_cons_zero, List.set_cons_succ])
            obtain ⟨Z15, hZ15⟩ : ∃ Z15, Z15 = w12.alloc (.cells #[.slice A12 t.newest.length c12] 54) := ⟨_, rfl⟩
            rw [← hZ15] at bW2 o6 o12 hba ⊢
            have bW := bW2
            clear bW2 hZ15
            (refine wpAnyH_ready (rs := [14]) (by kernel_rfl) (by simp) ?_; refine AllReadyH.cons (o := _) rfl (fun K hK => ?_) AllReadyH.nil)
            refine step_appG rfl (.tmp 34) (.tmp 41) 55 rfl Try.underlying55 info_sl rfl (by decide) _ vs.length vs _ _ rfl ?_ rfl rfl hba o6 (by omega) (by omega) ?_
            · intro y hy
              simp at hy
              rcases hy with rfl
              rfl
            intro g' c' u1 hown hg1 hloc
            have bW7 : Below Y.heap.size Y u1 := bW.trans ⟨hg1.os, hg1.tape, hg1.output, hg1.size, fun k hk => hg1.block k (Nat.lt_of_lt_of_le hk bW.size) (fun e => by have := o6n k e.symm; omega)⟩
            have o12' := own_same o12 (fun g hg => hg1.block g (o12.lt g hg).2 (fun e => own_ne o12 o6 (by decide) g hg e.symm))
            have M7 := H.out.below bW7
            have f7 := free_blk M7.blk 2
            have M8 := M7.grow (l := t.newest) rfl hown o12'
            have nG : Y.heap.size ≤ g' := hloc.elim (fun e => o6n g' e) (fun e => Nat.le_trans bW.size e)
            have U8 : But G Y (u1.setCell ⟨q, 2, none⟩ (.slice (some ⟨g', 0, none⟩) (vs.length + 1) c')) := (But.of_below bW7).set (p := ⟨q, 2, none⟩) GQ _
            have FIN := Lib.hid (show ∃ (G9 : Nat → Prop) (vr9 v12 : Value), RHalf (u1.setCell ⟨q, 2, none⟩ (.slice (some ⟨g', 0, none⟩) (vs.length + 1) c')) q G9 { t with readers := t.readers ++ [t.newest] } vn vr9 vo vk (vs ++ [v12]) ∧ (∀ g, G9 g → G g ∨ Y.heap.size ≤ g) ∧ But G Y (u1.setCell ⟨q, 2, none⟩ (.slice (some ⟨g', 0, none⟩) (vs.length + 1) c')) from
              ⟨_, _, _, M8, fun g hg => hg.elim .inl (fun hg => .inr (hg.elim (fun e => by
                have e : some g' = some g := e
                injection e with e; rw [← e]; exact nG) (o12n g))), U8⟩)
            have S7 := SBof _ bW7
            have S8 := S7.set (.slice (some ⟨g', 0, none⟩) (vs.length + 1) c')
            have y27 : u1.cell? ⟨q, 2, none⟩ = some vr := M7.cells.2.2.1
            clear M7 M8 o12' U8 hown hg1 hloc
            (refine hK.out _ _ S7 (fun hHeld2 => ?_); clear hK K hHeld; have hHeld := hHeld2; clear hHeld2; try simp only [Act.put, List.getElem_toArray, List.getElem_cons_zero, List.getElem_cons_succ, List.setIfInBounds_toArray, List.set_cons_zero, List.set_cons_succ])
            (refine wpAnyH_take (i := 15) (oi := _) (v := ?_) rfl (by kernel_rfl) (by kernel_rfl) (by kernel_rfl) (fun _ _ _ h => h) (Or.inl ⟨?_, ?_⟩) (by assumption) ?_; rotate_left; (focus (first | rfl | (simp [Region.wanted, yielded]; done))); (focus (intro w hSw; (try dsimp only at hSw); go_simp; all_goals (with_reducible rfl))); try simp only [Act.put, List.getElem_toArray, List.getElem_cons_zero, List.getElem_cons_succ, List.setIfInBounds_toArray, List.set_cons_zero, List.set_cons_succ])
            (refine wpAnyH_take (i := 16) (oi := _) (v := ?_) rfl (by kernel_rfl) (by kernel_rfl) (by kernel_rfl) (fun _ _ _ h => h) (Or.inl ⟨?_, ?_⟩) (by assumption) ?_; rotate_left; (focus (first | rfl | (simp [Region.wanted, yielded]; done))); (focus (intro w hSw; (try dsimp only at hSw); go_simp; all_goals (with_reducible rfl))); try simp only [Act.put, List.getElem_toArray, List.getElem_cons_zero, List.getElem_cons_succ, List.setIfInBounds_toArray, List.set_cons_zero, List.set_cons_succ])
            (refine wpAnyH_ready (rs := [17]) (by kernel_rfl) (by simp) ?_; refine AllReadyH.cons (o := _) rfl (fun K hK => ?_) AllReadyH.nil; go_simp)
            (refine hK.out _ _ S8 (fun hHeld2 => ?_); clear hK K hHeld; have hHeld := hHeld2; clear hHeld2; try simp only [Act.put, List.getElem_toArray, List.getElem_cons_zero, List.getElem_cons_succ, List.setIfInBounds_toArray, List.set_cons_zero, List.set_cons_succ])
            (refine wpAnyH_done (by kernel_rfl) ?_ _; refine NoPanic.normal ?_)
            clear hHeld CN
            go_wp2_with fail
            go_meet
            rw [← HY.out]
            exact FIN
        focus
          go_simp
          have b7 : Y.heap.size ≤ Y.heap.size := bW.size
          have E7 := own_emptyE Y (cs := #[]) rfl 68
          have bW2 : Below Y.heap.size Y (Y.alloc (.cells #[] 68)) := bW.trans ((Below.refl Y.heap.size Y).alloc (Nat.le_refl _) (.cells #[] 68) |>.mono bW.size)
          (refine hK.out _ _ (SBof (Y.alloc (.cells #[] 68)) bW2) (fun hHeld2 => ?_); clear hK K hHeld; have hHeld := hHeld2; clear hHeld2; try simp only [Act.put, List.getElem_toArray, List.getElem_cons_zero, List.getElem_cons_succ, List.setIfInBounds_toArray, List.set_cons_zero, List.set_cons_succ])
          obtain ⟨Z16, hZ16⟩ : ∃ Z16, Z16 = Y.alloc (.cells #[] 68) := ⟨_, rfl⟩
          rw [← hZ16] at bW2 E7 ⊢
          have bW := bW2
          clear bW2 hZ16
          (refine wpAnyH_ready (rs := [1, 5]) (by kernel_rfl) (by simp) ?_; refine AllReadyH.cons (o := _) rfl (fun K hK => ?_) (AllReadyH.cons (o := _) rfl (fun K hK => ?_) AllReadyH.nil))
          focus
            go_simp
            have b1 : Y.heap.size ≤ Z16.heap.size := bW.size
            have E7 := World.ownsRow.alloc E7 (.cells #[] 54)
            have E1 := own_emptyL Z16 (cs := #[]) rfl 54
            have bW2 : Below Y.heap.size Y (Z16.alloc (.cells #[] 54)) := bW.trans ((Below.refl Z16.heap.size Z16).alloc (Nat.le_refl _) (.cells #[] 54) |>.mono bW.size)
            (refine hK.out _ _ (SBof (Z16.alloc (.cells #[] 54)) bW2) (fun hHeld2 => ?_); clear hK K hHeld; have hHeld := hHeld2; clear hHeld2; try simp only [Act.put, List.getElem_toArray, List.getElem_cons_zero, List.getElem_cons_succ, List.setIfInBounds_toArray, List.set_cons_zero, List.set_cons_succ])
            obtain ⟨Z17, hZ17⟩ : ∃ Z17, Z17 = Z16.alloc (.cells #[] 54) := ⟨_, rfl⟩
            rw [← hZ17] at bW2 E1 E7 ⊢
            have bW := bW2
            clear bW2 hZ17
            have yk5 : Z17.cell? ⟨q, 2, none⟩ = some (.slice Ar vs.length cr) := (World.cell?_of_block (a := ⟨q, 2, none⟩) (bW.block q zqy)).trans yk
            (refine wpAnyH_ready (rs := [5]) (by kernel_rfl) (by simp) ?_; refine AllReadyH.cons (o := _) rfl (fun K hK => ?_) AllReadyH.nil; go_simp)
            (refine hK.out _ _ (SBof (Z17) bW) (fun hHeld2 => ?_); clear hK K hHeld; have hHeld := hHeld2; clear hHeld2; try simp only [Act.put, List.getElem_toArray, List.getElem_cons_zero, List.getElem_cons_succ, List.setIfInBounds_toArray, List.set_cons_zero, List.set_cons_succ])
            (refine wpAnyH_ready (rs := [6]) (by kernel_rfl) (by simp) ?_; refine AllReadyH.cons (o := _) rfl (fun K hK => ?_) AllReadyH.nil)
            refine step_appRS rfl (.tmp 29) (.tmp 33) 55 rfl Try.underlying55 info_sl rfl (by decide) _ 0 [] _ Ar vs.length cr vs ones rfl rfl E1 (rd_drew (RRY.out.below bW)) (by omega) (by omega) (by omega) ?_
            intro v6 w6 o6 g6 l6
            have o6n : ∀ g, v6.ownBlock = some g → Y.heap.size ≤ g := fun g hg => (l6 g hg).elim (fun e => by have e : some (Z16.heap.size) = some g := e; injection e with e; omega) (fun e => Nat.le_trans bW.size e)
            have E7 := own_same E7 (fun g hg => g6.block g (E7.lt g hg).2 (fun e => own_ne E7 E1 (by decide) g hg e.symm))
            have bW6 : Below Y.heap.size Y w6 := bW.trans ⟨g6.os, g6.tape, g6.output, g6.size, fun k hk => g6.block k (Nat.lt_of_lt_of_le hk bW.size) (fun e => by have e : some k = some (Z16.heap.size) := e; injection e with e; omega)⟩
            have bW := bW6
            clear bW6 g6 l6
            rw [Nat.zero_add, List.nil_append] at o6
            (refine hK.out _ _ (SBof _ bW) (fun hHeld2 => ?_); clear hK K hHeld; have hHeld := hHeld2; clear hHeld2; try simp only [Act.put, List.getElem_toArray, List.getElem_cons_zero, List.getElem_cons_succ, List.setIfInBounds_toArray, List.set_cons_zero, List.set_cons_succ])
            (refine wpAnyH_ready (rs := [12]) (by kernel_rfl) (by simp) ?_; refine AllReadyH.cons (o := _) rfl (fun K hK => ?_) AllReadyH.nil)
            refine step_appRS rfl (.tmp 35) (.tmp 39) 54 rfl Try.underlying54 info_ent rfl (by decide) _ 0 [] _ An t.newest.length cn (entsC t.newest) (ents_one _) rfl rfl E7 (rd_drew (RNY.out.below bW)) (entsC_len _) (by omega) (by omega) ?_
            intro v12 w12 o12 g12 l12
            have o12n : ∀ g, v12.ownBlock = some g → Y.heap.size ≤ g := fun g hg => (l12 g hg).elim (fun e => by have e : some (Y.heap.size) = some g := e; injection e with e; omega) (fun e => Nat.le_trans bW.size e)
            have o6 := own_same o6 (fun g hg => g12.block g (o6.lt g hg).2 (fun e => own_ne o6 E7 (by decide) g hg e.symm))
            have bW6 : Below Y.heap.size Y w12 := bW.trans ⟨g12.os, g12.tape, g12.output, g12.size, fun k hk => g12.block k (Nat.lt_of_lt_of_le hk bW.size) (fun e => by have e : some k = some (Y.heap.size) := e; injection e with e; omega)⟩
            have bW := bW6
            clear bW6 g12 l12
            rw [Nat.zero_add, List.nil_append] at o12
            obtain ⟨A12, c12, rfl, -⟩ := own_sl o12
            (refine hK.out _ _ (SBof _ bW) (fun hHeld2 => ?_); clear hK K hHeld; have hHeld := hHeld2; clear hHeld2; try simp only [Act.put, List.getElem_toArray, List.getElem_cons_zero, List.getElem_cons_succ, List.setIfInBounds_toArray, List.set_cons_zero, List.set_cons_succ])
            (refine wpAnyH_ready (rs := [13]) (by kernel_rfl) (by simp) ?_; refine AllReadyH.cons (o := _) rfl (fun K hK => ?_) AllReadyH.nil; go_simp)
            have o6 := World.ownsRow.alloc o6 (.cells #[.slice A12 t.newest.length c12] 54)
            have o12 := World.ownsRow.alloc o12 (.cells #[.slice A12 t.newest.length c12] 54)
            have hba := heap_alloc_new w12 (.cells #[.slice A12 t.newest.length c12] 54)
            have bW2 : Below Y.heap.size Y (w12.alloc (.cells #[.slice A12 t.newest.length c12] 54)) := bW.trans ((Below.refl w12.heap.size w12).alloc (Nat.le_refl _) (.cells #[.slice A12 t.newest.length c12] 54) |>.mono bW.size)
            (refine hK.out _ _ (SBof (w12.alloc (.cells #[.slice A12 t.newest.length c12] 54)) bW2) (fun hHeld2 => ?_); clear hK K hHeld; have hHeld := hHeld2; clear hHeld2; try simp only [Act.put, List.getElem_toArray, List.getElem_cons_zero, List.getElem_cons_succ, List.setIfInBounds_toArray, List.set_cons_zero, List.set_cons_succ])
            obtain ⟨Z18, hZ18⟩ : ∃ Z18, Z18 = w12.alloc (.cells #[.slice A12 t.newest.length c12] 54) := ⟨_, rfl⟩
            rw [← hZ18] at bW2 o6 o12 hba ⊢
            have bW := bW2
            clear bW2 hZ18
            (refine wpAnyH_ready (rs := [14]) (by kernel_rfl) (by simp) ?_; refine AllReadyH.cons (o := _) rfl (fun K hK => ?_) AllReadyH.nil)
            refine step_appG rfl (.tmp 34) (.tmp 41) 55 rfl Try.underlying55 info_sl rfl (by decide) _ vs.length vs _ _ rfl ?_ rfl rfl hba o6 (by omega) (by omega) ?_
            · intro y hy
              simp at hy
              rcases hy with rfl
              rfl
            intro g' c' u1 hown hg1 hloc
            have bW7 : Below Y.heap.size Y u1 := bW.trans ⟨hg1.os, hg1.tape, hg1.output, hg1.size, fun k hk => hg1.block k (Nat.lt_of_lt_of_le hk bW.size) (fun e => by have := o6n k e.symm; omega)⟩
            have o12' := own_same o12 (fun g hg => hg1.block g (o12.lt g hg).2 (fun e => own_ne o12 o6 (by decide) g hg e.symm))
            have M7 := H.out.below bW7
            have f7 := free_blk M7.blk 2
            have M8 := M7.grow (l := t.newest) rfl hown o12'
            have nG : Y.heap.size ≤ g' := hloc.elim (fun e => o6n g' e) (fun e => Nat.le_trans bW.size e)
            have U8 : But G Y (u1.setCell ⟨q, 2, none⟩ (.slice (some ⟨g', 0, none⟩) (vs.length + 1) c')) := (But.of_below bW7).set (p := ⟨q, 2, none⟩) GQ _
            have FIN := Lib.hid (show ∃ (G9 : Nat → Prop) (vr9 v12 : Value), RHalf (u1.setCell ⟨q, 2, none⟩ (.slice (some ⟨g', 0, none⟩) (vs.length + 1) c')) q G9 { t with readers := t.readers ++ [t.newest] } vn vr9 vo vk (vs ++ [v12]) ∧ (∀ g, G9 g → G g ∨ Y.heap.size ≤ g) ∧ But G Y (u1.setCell ⟨q, 2, none⟩ (.slice (some ⟨g', 0, none⟩) (vs.length + 1) c')) from
              ⟨_, _, _, M8, fun g hg => hg.elim .inl (fun hg => .inr (hg.elim (fun e => by
                have e : some g' = some g := e
                injection e with e; rw [← e]; exact nG) (o12n g))), U8⟩)
            have S7 := SBof _ bW7
            have S8 := S7.set (.slice (some ⟨g', 0, none⟩) (vs.length + 1) c')
            have y27 : u1.cell? ⟨q, 2, none⟩ = some vr := M7.cells.2.2.1
            clear M7 M8 o12' U8 hown hg1 hloc
            (refine hK.out _ _ S7 (fun hHeld2 => ?_); clear hK K hHeld; have hHeld := hHeld2; clear hHeld2; try simp only [Act.put, List.getElem_toArray, List.getElem_cons_zero, List.getElem_cons_succ, List.setIfInBounds_toArray, List.set_cons_zero, List.set_cons_succ])
            (refine wpAnyH_take (i := 15) (oi := _) (v := ?_) rfl (by kernel_rfl) (by kernel_rfl) (by kernel_rfl) (fun _ _ _ h => h) (Or.inl ⟨?_, ?_⟩) (by assumption) ?_; rotate_left; (focus (first | rfl | (simp [Region.wanted, yielded]; done))); (focus (intro w hSw; (try dsimp only at hSw); go_simp; all_goals (with_reducible rfl))); try simp only [Act.put, List.getElem_toArray, List.getElem_cons_zero, List.getElem_cons_succ, List.setIfInBounds_toArray, List.set_cons_zero, List.set_cons_succ])
            (refine wpAnyH_take (i := 16) (oi := _) (v := ?_) rfl (by kernel_rfl) (by kernel_rfl) (by kernel_rfl) (fun _ _ _ h => h) (Or.inl ⟨?_, ?_⟩) (by assumption) ?_; rotate_left; (focus (first | rfl | (simp [Region.wanted, yielded]; done))); (focus (intro w hSw; (try dsimp only at hSw); go_simp; all_goals (with_reducible rfl))); try simp only [Act.put, List.getElem_toArray, List.getElem_cons_zero, List.getElem_cons_succ, List.setIfInBounds_toArray, List.set_cons_zero, List.set_cons_succ])
            (refine wpAnyH_ready (rs := [17]) (by kernel_rfl) (by simp) ?_; refine AllReadyH.cons (o := _) rfl (fun K hK => ?_) AllReadyH.nil; go_simp)
            (refine hK.out _ _ S8 (fun hHeld2 => ?_); clear hK K hHeld; have hHeld := hHeld2; clear hHeld2; try simp only [Act.put, List.getElem_toArray, List.getElem_cons_zero, List.getElem_cons_succ, List.setIfInBounds_toArray, List.set_cons_zero, List.set_cons_succ])
            (refine wpAnyH_done (by kernel_rfl) ?_ _; refine NoPanic.normal ?_)
            clear hHeld CN
            go_wp2_with fail
            go_meet
            rw [← HY.out]
            exact FIN
          focus
            have yk5 : Z16.cell? ⟨q, 2, none⟩ = some (.slice Ar vs.length cr) := (World.cell?_of_block (a := ⟨q, 2, none⟩) (bW.block q zqy)).trans yk
            go_simp
            (refine hK.out _ _ (SBof (Z16) bW) (fun hHeld2 => ?_); clear hK K hHeld; have hHeld := hHeld2; clear hHeld2; try simp only [Act.put, List.getElem_toArray, List.getElem_cons_zero, List.getElem_cons_succ, List.setIfInBounds_toArray, List.set_cons_zero, List.set_cons_succ])
            (refine wpAnyH_ready (rs := [1]) (by kernel_rfl) (by simp) ?_; refine AllReadyH.cons (o := _) rfl (fun K hK => ?_) AllReadyH.nil; go_simp)
            have b1 : Y.heap.size ≤ Z16.heap.size := bW.size
            have E7 := World.ownsRow.alloc E7 (.cells #[] 54)
            have E1 := own_emptyL Z16 (cs := #[]) rfl 54
            have bW2 : Below Y.heap.size Y (Z16.alloc (.cells #[] 54)) := bW.trans ((Below.refl Z16.heap.size Z16).alloc (Nat.le_refl _) (.cells #[] 54) |>.mono bW.size)
            (refine hK.out _ _ (SBof (Z16.alloc (.cells #[] 54)) bW2) (fun hHeld2 => ?_); clear hK K hHeld; have hHeld := hHeld2; clear hHeld2; try simp only [Act.put, List.getElem_toArray, List.getElem_cons_zero, List.getElem_cons_succ, List.setIfInBounds_toArray, List.set_cons_zero, List.set_cons_succ])
            obtain ⟨Z19, hZ19⟩ : ∃ Z19, Z19 = Z16.alloc (.cells #[] 54) := ⟨_, rfl⟩
            rw [← hZ19] at bW2 E1 E7 ⊢
            have bW := bW2
            clear bW2 hZ19
            (refine wpAnyH_ready (rs := [6]) (by kernel_rfl) (by simp) ?_; refine AllReadyH.cons (o := _) rfl (fun K hK => ?_) AllReadyH.nil)
            refine step_appRS rfl (.tmp 29) (.tmp 33) 55 rfl Try.underlying55 info_sl rfl (by decide) _ 0 [] _ Ar vs.length cr vs ones rfl rfl E1 (rd_drew (RRY.out.below bW)) (by omega) (by omega) (by omega) ?_
            intro v6 w6 o6 g6 l6
            have o6n : ∀ g, v6.ownBlock = some g → Y.heap.size ≤ g := fun g hg => (l6 g hg).elim (fun e => by have e : some (Z16.heap.size) = some g := e; injection e with e; omega) (fun e => Nat.le_trans bW.size e)
            have E7 := own_same E7 (fun g hg => g6.block g (E7.lt g hg).2 (fun e => own_ne E7 E1 (by decide) g hg e.symm))
            have bW6 : Below Y.heap.size Y w6 := bW.trans ⟨g6.os, g6.tape, g6.output, g6.size, fun k hk => g6.block k (Nat.lt_of_lt_of_le hk bW.size) (fun e => by have e : some k = some (Z16.heap.size) := e; injection e with e; omega)⟩
            have bW := bW6
            clear bW6 g6 l6
            rw [Nat.zero_add, List.nil_append] at o6
            (refine hK.out _ _ (SBof _ bW) (fun hHeld2 => ?_); clear hK K hHeld; have hHeld := hHeld2; clear hHeld2; try simp only [Act.put, List.getElem_toArray, List.getElem_cons_zero, List.getElem_cons_succ, List.setIfInBounds_toArray, List.set_cons_zero, List.set_cons_succ])
            (refine wpAnyH_ready (rs := [12]) (by kernel_rfl) (by simp) ?_; refine AllReadyH.cons (o := _) rfl (fun K hK => ?_) AllReadyH.nil)
            refine step_appRS rfl (.tmp 35) (.tmp 39) 54 rfl Try.underlying54 info_ent rfl (by decide) _ 0 [] _ An t.newest.length cn (entsC t.newest) (ents_one _) rfl rfl E7 (rd_drew (RNY.out.below bW)) (entsC_len _) (by omega) (by omega) ?_
            intro v12 w12 o12 g12 l12
            have o12n : ∀ g, v12.ownBlock = some g → Y.heap.size ≤ g := fun g hg => (l12 g hg).elim (fun e => by have e : some (Y.heap.size) = some g := e; injection e with e; omega) (fun e => Nat.le_trans bW.size e)
            have o6 := own_same o6 (fun g hg => g12.block g (o6.lt g hg).2 (fun e => own_ne o6 E7 (by decide) g hg e.symm))
            have bW6 : Below Y.heap.size Y w12 := bW.trans ⟨g12.os, g12.tape, g12.output, g12.size, fun k hk => g12.block k (Nat.lt_of_lt_of_le hk bW.size) (fun e => by have e : some k = some (Y.heap.size) := e; injection e with e; omega)⟩
            have bW := bW6
            clear bW6 g12 l12
            rw [Nat.zero_add, List.nil_append] at o12
            obtain ⟨A12, c12, rfl, -⟩ := own_sl o12
            (refine hK.out _ _ (SBof _ bW) (fun hHeld2 => ?_); clear hK K hHeld; have hHeld := hHeld2; clear hHeld2; try simp only [Act.put, List.getElem_toArray, List.getElem_cons_zero, List.getElem_cons_succ, List.setIfInBounds_toArray, List.set_cons_zero, List.set_cons_succ])
            (refine wpAnyH_ready (rs := [13]) (by kernel_rfl) (by simp) ?_; refine AllReadyH.cons (o := _) rfl (fun K hK => ?_) AllReadyH.nil; go_simp)
            have o6 := World.ownsRow.alloc o6 (.cells #[.slice A12 t.newest.length c12] 54)
            have o12 := World.ownsRow.alloc o12 (.cells #[.slice A12 t.newest.length c12] 54)
            have hba := heap_alloc_new w12 (.cells #[.slice A12 t.newest.length c12] 54)
            have bW2 : Below Y.heap.size Y (w12.alloc (.cells #[.slice A12 t.newest.length c12] 54)) := bW.trans ((Below.refl w12.heap.size w12).alloc (Nat.le_refl _) (.cells #[.slice A12 t.newest.length c12] 54) |>.mono bW.size)
            (refine hK.out _ _ (SBof (w12.alloc (.cells #[.slice A12 t.newest.length c12] 54)) bW2) (fun hHeld2 => ?_); clear hK K hHeld; have hHeld := hHeld2; clear hHeld2; try simp only [Act.put, List.getElem_toArray, List.getElem_cons_zero, List.getElem_cons_succ, List.setIfInBounds_toArray, List.set_cons_zero, List.set_cons_succ])
            obtain ⟨Z20, hZ20⟩ : ∃ Z20, Z20 = w12.alloc (.cells #[.slice A12 t.newest.length c12] 54) := ⟨_, rfl⟩
            rw [← hZ20] at bW2 o6 o12 hba ⊢
            have bW := bW2
            clear bW2 hZ20
            (refine wpAnyH_ready (rs := [14]) (by kernel_rfl) (by simp) ?_; refine AllReadyH.cons (o := _) rfl (fun K hK => ?_) AllReadyH.nil)
            refine step_appG rfl (.tmp 34) (.tmp 41) 55 rfl Try.underlying55 info_sl rfl (by decide) _ vs.length vs _ _ rfl ?_ rfl rfl hba o6 (by omega) (by omega) ?_
            · intro y hy
              simp at hy
              rcases hy with rfl
              rfl
            intro g' c' u1 hown hg1 hloc
            have bW7 : Below Y.heap.size Y u1 := bW.trans ⟨hg1.os, hg1.tape, hg1.output, hg1.size, fun k hk => hg1.block k (Nat.lt_of_lt_of_le hk bW.size) (fun e => by have := o6n k e.symm; omega)⟩
            have o12' := own_same o12 (fun g hg => hg1.block g (o12.lt g hg).2 (fun e => own_ne o12 o6 (by decide) g hg e.symm))
            have M7 := H.out.below bW7
            have f7 := free_blk M7.blk 2
            have M8 := M7.grow (l := t.newest) rfl hown o12'
            have nG : Y.heap.size ≤ g' := hloc.elim (fun e => o6n g' e) (fun e => Nat.le_trans bW.size e)
            have U8 : But G Y (u1.setCell ⟨q, 2, none⟩ (.slice (some ⟨g', 0, none⟩) (vs.length + 1) c')) := (But.of_below bW7).set (p := ⟨q, 2, none⟩) GQ _
            have FIN := Lib.hid (show ∃ (G9 : Nat → Prop) (vr9 v12 : Value), RHalf (u1.setCell ⟨q, 2, none⟩ (.slice (some ⟨g', 0, none⟩) (vs.length + 1) c')) q G9 { t with readers := t.readers ++ [t.newest] } vn vr9 vo vk (vs ++ [v12]) ∧ (∀ g, G9 g → G g ∨ Y.heap.size ≤ g) ∧ But G Y (u1.setCell ⟨q, 2, none⟩ (.slice (some ⟨g', 0, none⟩) (vs.length + 1) c')) from
              ⟨_, _, _, M8, fun g hg => hg.elim .inl (fun hg => .inr (hg.elim (fun e => by
                have e : some g' = some g := e
                injection e with e; rw [← e]; exact nG) (o12n g))), U8⟩)
            have S7 := SBof _ bW7
            have S8 := S7.set (.slice (some ⟨g', 0, none⟩) (vs.length + 1) c')
            have y27 : u1.cell? ⟨q, 2, none⟩ = some vr := M7.cells.2.2.1
            clear M7 M8 o12' U8 hown hg1 hloc
            (refine hK.out _ _ S7 (fun hHeld2 => ?_); clear hK K hHeld; have hHeld := hHeld2; clear hHeld2; try simp only [Act.put, List.getElem_toArray, List.getElem_cons_zero, List.getElem_cons_succ, List.setIfInBounds_toArray, List.set_cons_zero, List.set_cons_succ])
            (refine wpAnyH_take (i := 15) (oi := _) (v := ?_) rfl (by kernel_rfl) (by kernel_rfl) (by kernel_rfl) (fun _ _ _ h => h) (Or.inl ⟨?_, ?_⟩) (by assumption) ?_; rotate_left; (focus (first | rfl | (simp [Region.wanted, yielded]; done))); (focus (intro w hSw; (try dsimp only at hSw); go_simp; all_goals (with_reducible rfl))); try simp only [Act.put, List.getElem_toArray, List.getElem_cons_zero, List.getElem_cons_succ, List.setIfInBounds_toArray, List.set_cons_zero, List.set_cons_succ])
            (refine wpAnyH_take (i := 16) (oi := _) (v := ?_) rfl (by kernel_rfl) (by kernel_rfl) (by kernel_rfl) (fun _ _ _ h => h) (Or.inl ⟨?_, ?_⟩) (by assumption) ?_; rotate_left; (focus (first | rfl | (simp [Region.wanted, yielded]; done))); (focus (intro w hSw; (try dsimp only at hSw); go_simp; all_goals (with_reducible rfl))); try simp only [Act.put, List.getElem_toArray, List.getElem_cons_zero, List.getElem_cons_succ, List.setIfInBounds_toArray, List.set_cons_zero, List.set_cons_succ])
            (refine wpAnyH_ready (rs := [17]) (by kernel_rfl) (by simp) ?_; refine AllReadyH.cons (o := _) rfl (fun K hK => ?_) AllReadyH.nil; go_simp)
            (refine hK.out _ _ S8 (fun hHeld2 => ?_); clear hK K hHeld; have hHeld := hHeld2; clear hHeld2; try simp only [Act.put, List.getElem_toArray, List.getElem_cons_zero, List.getElem_cons_succ, List.setIfInBounds_toArray, List.set_cons_zero, List.set_cons_succ])
            (refine wpAnyH_done (by kernel_rfl) ?_ _; refine NoPanic.normal ?_)
            clear hHeld CN
            go_wp2_with fail
            go_meet
            rw [← HY.out]
            exact FIN
end Go.Proofs.Ytfhgidbmeifflaa
