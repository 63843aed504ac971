/- REFERENCE: Forget. -/
import Derived.Test.YtfhgidbmeifflaaPE
import Derived.Deep.RegionHeld3
set_option linter.unusedSimpArgs false
set_option linter.unusedVariables false
namespace Go.Proofs.Ytfhgidbmeifflaa
open Go.RowKit Go.Maps Go.ChangeMaps Go.MapKept Go.WideShapes Go.WideMaps

/-- how great a reference shelf is -/
structure RB (t : RSh) : Prop where
  kept : t.kept.length ≤ 100000
  newest : t.newest.length ≤ 100000
  rds : t.readers.length ≤ 100000
  rd : ∀ l ∈ t.readers, l.length ≤ 100000
  ver : t.ver ≤ 100000
  count : t.count ≤ 100000
def fgtR (key : Tx) (l : List Ent) : List Ent := if findI l key < l.length then withoutL l key ++ [⟨key, [], 0⟩] else l
theorem rd_drew {w : World} {A : Option Addr} {X : List Value} (h : Rd w A X) : Rd w.drew A X := fun hx => by
  obtain ⟨b, off, e, hz, hc⟩ := h hx
  exact ⟨b, off, e, hz, hc⟩
def rforgetF (t : RSh) (key : Tx) : RSh × Nat :=
  if findI t.kept key < t.kept.length then ({ t with kept := withoutL t.kept key, newest := withoutL t.newest key, readers := t.readers.map (fgtR key) }, 0) else (t, 11)
theorem own0 {w : World} {B size n : Nat} {e : TypeId} {v : Value} {X : List Value} (h : w.ownsRow B e size v n X) : w.ownsRow 0 e size v n X := h.mono (Nat.zero_le _)
/-- a reference shelf under way -/
def Rw (w : World) (X : Nat → Prop) (q : Nat) (t : RSh) (vr : Value) (wx : World) : Prop :=
  ∃ (G' : Nat → Prop) (vn vo vk : Value) (vs : List Value), RefMem wx q G' t vn vr vo vk vs ∧ (∀ g, G' g → X g ∨ w.heap.size ≤ g) ∧ But X w wx
set_option maxHeartbeats 8000000 in
set_option maxRecDepth 100000 in
theorem rforget_any (q : Nat) (G : Nat → Prop) (t : RSh) (key : Tx) (w : World) (h : RefAt w q G t) (hb : RB t) :
    Calls Try.prog 28 #[.pointer (some ⟨q, 0, none⟩), .string (mkB key)] w fun e w' => e = .returned (.int .i64 ((rforgetF t key).2 : Int)) ∧ RefPost w q G (rforgetF t key).1 w' := by
  have RE : Hid (rforgetF t key = if findI t.kept key < t.kept.length then ({ t with kept := withoutL t.kept key, newest := withoutL t.newest key, readers := t.readers.map (fgtR key) }, 0) else (t, 11)) := Lib.hid rfl
  generalize rforgetF t key = RR at *
  obtain ⟨vn, vr, vo, vk, vs, h⟩ := h
  have H := Lib.hid h
  obtain ⟨x0, x1, x2, x3, x4, x5⟩ := h.cells
  obtain ⟨Ak, ck, hvk, hRk⟩ := own_sl h.ek
  have FD := Lib.hid (find_any Ak t.kept.length ck t.kept key w rfl (by have := hb.kept; omega) hRk)
  rw [hvk] at x4
  have HB := Lib.hid hb
  have RK := Lib.hid hRk
  clear h hb hRk
  go_enter Try.func28, Try.ntmps28
  go_wp2_with fail
  refine FD.out.mono ?_
  rintro e w1 ⟨rfl, b1⟩
  by_cases hf : findI t.kept key < t.kept.length
  · have FR : findR t.kept key = (findI t.kept key : Int) := by unfold findR; rw [if_pos hf]
    rw [FR]
    have d0 : ¬ ((findI t.kept key : Nat) : Int) < 0 := by omega
    have RE2 := RE.out
    rw [if_pos hf] at RE2
    have RE3 := Lib.hid RE2
    generalize findI t.kept key = ki at *
    have H1 := H.out.below b1
    obtain ⟨y0, y1, y2, y3, y4, y5⟩ := H1.cells
    rw [hvk] at y4
    have WK := Lib.hid (without_any Ak t.kept.length ck t.kept key w1 rfl (by have := HB.out.kept; omega) (RK.out.below b1))
    have H1H := Lib.hid H1
    have BU1 := Lib.hid (But.of_below b1 : But G w w1)
    have z1 : w.heap.size ≤ w1.heap.size := b1.size
    clear RE RE2 FR b1 FD x0 x1 x2 x3 x4 x5 H1 hf RK hvk
    go_wp2_with fail
    refine WK.out.mono ?_
    rintro e w2 ⟨v2, rfl, o2, b2⟩
    have H2 := H1H.out.below b2
    have f4 := free_blk H2.blk 4
    obtain ⟨y0, y1, y2, y3, y4, y5⟩ := H2.cells
    have K2 := H2.keptSet (own0 o2)
    have U2 : But G w (w2.setCell ⟨q, 4, none⟩ v2) := (BU1.out.thenB (b2.mono z1)).set (p := ⟨q, 4, none⟩) H.out.gq v2
    obtain ⟨A2, c2, hv2, -⟩ := own_sl o2
    have G2 : ∀ g, (G g ∨ v2.ownBlock = some g) → G g ∨ w.heap.size ≤ g := fun g hg => hg.imp id (fun e => Nat.le_trans z1 (o2.lt g e).1)
    have K2H := Lib.hid K2
    have U2H := Lib.hid U2
    have G2H := Lib.hid G2
    have lv : ∀ (f : Nat), f ≠ 4 → (w2.setCell ⟨q, 4, none⟩ v2).cell? ⟨q, f, none⟩ = w2.cell? ⟨q, f, none⟩ := fun f hf => World.cell?_setCell_other _ _ _ _ (by intro e; injection e with _ e2 _; exact hf e2.symm)
    obtain ⟨An, cn, hvn, hRn⟩ := own_sl K2.en
    have WN := Lib.hid (without_any An t.newest.length cn t.newest key (w2.setCell ⟨q, 4, none⟩ v2) rfl (by have := HB.out.newest; omega) hRn)
    have e1 : (w2.setCell ⟨q, 4, none⟩ v2).cell? ⟨q, 1, none⟩ = some (.slice An t.newest.length cn) := by rw [lv 1 (by decide), y1, hvn]
    clear b2 o2 H2 K2 U2 G2 hRn lv WK H1H BU1 y0 y1 y2 y3 y5
    rw [hv2] at *
    go_wp2_with fail
    refine WN.out.mono ?_
    rintro e w3 ⟨v3, rfl, o3, b3⟩
    have H3 := K2H.out.below b3
    have f1 := free_blk H3.blk 1
    obtain ⟨y0, y1, y2, y3, y4', y5⟩ := H3.cells
    have K3 := H3.newestSet (own0 o3)
    have z2 := U2H.out.size
    have U3 : But G w (w3.setCell ⟨q, 1, none⟩ v3) := (U2H.out.thenB (b3.mono z2)).set (p := ⟨q, 1, none⟩) H.out.gq v3
    obtain ⟨A3, c3, hv3, -⟩ := own_sl o3
    have ST : Hid (Rw w G q { t with kept := withoutL t.kept key, newest := withoutL t.newest key, readers := (t.readers.take 0).map (fgtR key) ++ t.readers.drop 0 } vr (w3.setCell ⟨q, 1, none⟩ v3)) := Lib.hid ⟨_, _, _, _, _, K3, fun g hg => hg.elim (G2H.out g) (fun e => .inr (Nat.le_trans z2 (o3.lt g e).1)), U3⟩
    rw [hv3] at *
    clear H3 K3 U3 b3 o3 WN K2H U2H G2H y0 y2 y3 y4' y5 hv3 e1
    go_wp2_with fail
    have LR := H.out.lr
    have RN := HB.out.rds
    go_loopw [5] (fun s5 wx => ∃ i : Nat, i ≤ t.readers.length ∧ s5 = .int .i64 (i : Int) ∧ Hid (Rw w G q { t with kept := withoutL t.kept key, newest := withoutL t.newest key, readers := (t.readers.take i).map (fgtR key) ++ t.readers.drop i } vr wx)) (fun i _ => t.readers.length - (intOf i).toNat)
    case atStart => exact ⟨0, Nat.zero_le _, rfl, ST⟩
    case round =>
      clear ST f1 f4 y1
      obtain ⟨i, hin, rfl, RW⟩ := hrel
      obtain ⟨G', vn', vo', vk', vs', hm, hG, hU⟩ := RW.out
      have lv : vs'.length = t.readers.length := by
        have := hm.lr
        simp only [List.length_append, List.length_map, List.length_take, List.length_drop] at this
        omega
      obtain ⟨y0, y1, y2, y3, y4', y5⟩ := hm.cells
      obtain ⟨Ar, cr, hvr, hRr⟩ := own_sl hm.er
      rw [hvr] at y2
      by_cases hlt : i < t.readers.length
      · have d1 : (i : Int) < (vs'.length : Int) := by omega
        have d2 : (0 : Int) ≤ (i : Int) := by omega
        have hiv : i < vs'.length := by omega
        have ci : i < ((t.readers.take i).map (fgtR key) ++ t.readers.drop i).length := by simp; omega
        have eR : ((t.readers.take i).map (fgtR key) ++ t.readers.drop i)[i] = t.readers[i] := by
          rw [List.getElem_append_right (by simp; omega), List.getElem_drop]
          congr 1
          simp; omega
        have EL := hm.el i hiv ci
        rw [eR] at EL
        obtain ⟨gr, cr', hgr, -, hgz⟩ := hm.er.form (by omega)
        rw [hvr] at hgr
        injection hgr with hA _ _
        subst hA
        have er := hm.er
        rw [hvr] at er
        have yi : wr.cell? ⟨gr, i, none⟩ = some vs'[i] := by rw [er.cellAt _ (by omega)]; exact List.getElem?_eq_getElem hiv
        obtain ⟨Ai, cI, hvi, hRi⟩ := own_sl EL
        rw [hvi] at yi
        have LI := HB.out.rd _ (List.getElem_mem hlt)
        have FS : Hid ((t.readers.take (i + 1)).map (fgtR key) ++ t.readers.drop (i + 1) = ((t.readers.take i).map (fgtR key) ++ t.readers.drop i).set i (fgtR key t.readers[i])) := Lib.hid (by
          have hl : ((t.readers.take i).map (fgtR key)).length = i := by simp; omega
          rw [List.set_append_right _ _ (by omega), hl, Nat.sub_self, List.take_succ_eq_append_getElem hlt, List.map_append, List.append_assoc, List.drop_eq_getElem_cons hlt]
          rfl)
        have FSS : Hid (fgtR key t.readers[i] = t.readers[i] → (t.readers.take (i + 1)).map (fgtR key) ++ t.readers.drop (i + 1) = (t.readers.take i).map (fgtR key) ++ t.readers.drop i) := Lib.hid (fun e => by
          rw [FS.out, e, ← eR, List.set_getElem_self])
        have FG : Hid (fgtR key t.readers[i] = if findI t.readers[i] key < t.readers[i].length then withoutL t.readers[i] key ++ [⟨key, [], 0⟩] else t.readers[i]) := Lib.hid rfl
        have HM := Lib.hid hm
        have HG := Lib.hid hG
        have HU := Lib.hid hU
        have RI := Lib.hid hRi
        clear hm hG hU hRi hRr RW er EL eR ci LR
        generalize t.readers[i] = l at *
        have FD := Lib.hid (find_any Ai l.length cI l key wr rfl (by omega) RI.out)
        have gz : gr < wr.heap.size := hgz
        go_wp2_with fail
        refine FD.out.mono ?_
        rintro e w5 ⟨rfl, b5⟩
        have HM5 := Lib.hid (HM.out.below b5)
        have HU5 := Lib.hid (HU.out.thenB (b5.mono HU.out.size))
        by_cases hf : findI l key < l.length
        · have FR : findR l key = (findI l key : Int) := by unfold findR; rw [if_pos hf]
          rw [FR]
          have F2 := FG.out
          rw [if_pos hf] at F2
          have F3 := Lib.hid F2
          have d3 : (0 : Int) ≤ ((findI l key : Nat) : Int) := by omega
          generalize findI l key = kk at *
          clear FR F2 FG FSS
          have C2 : ∀ w' : World, w'.heap[q]? = w5.heap[q]? → w'.cell? ⟨q, 2, none⟩ = some (.slice (some ⟨gr, 0, none⟩) vs'.length cr) := fun w' h => (World.cell?_of_block (a := ⟨q, 2, none⟩) h).trans (by rw [HM5.out.cells.2.2.1, hvr])
          have er5 := HM5.out.er
          rw [hvr] at er5
          have yi5 : w5.cell? ⟨gr, i, none⟩ = some (.slice Ai l.length cI) := by rw [er5.cellAt _ (by omega), List.getElem?_eq_getElem hiv, hvi]
          have fi5 := er5.frozenAt i
          have gz5 : gr < w5.heap.size := (er5.lt gr rfl).2
          have qz5 : q < w5.heap.size := HM5.out.lt q HM5.out.gq
          have WR := Lib.hid (fun (u : World) (hu : Rd u Ai (entsC l)) => without_any Ai l.length cI l key u rfl (by omega) hu)
          have RI5 := Lib.hid (RI.out.below b5)
          clear er5
          go_wp2_with fail
          (refine wp_region_noPanic ?_; refine wp_region_held_drew (S := (fun w' : World => w'.heap[q]? = w5.heap[q]?)) (by kernel_rfl) ?_ (fun hHeld => ?_); exact rfl)
          (refine wpAnyH_take (i := 0) (oi := _) (v := ?_) rfl (by kernel_rfl) (by kernel_rfl) (by kernel_rfl) (fun _ _ _ h => h) (Or.inl ⟨?_, ?_⟩) (by assumption) ?_; rotate_left; (focus (first | rfl | (simp [Region.wanted, yielded]; done))); (focus (intro w hSw; (try dsimp only at hSw); go_simp; all_goals (with_reducible rfl))); try simp only [Act.put, List.getElem_toArray, List.getElem_cons_zero, List.getElem_cons_succ, List.setIfInBounds_toArray, List.set_cons_zero, List.set_cons_succ])
          (refine wpAnyH_take (i := 1) (oi := _) (v := ?_) rfl (by kernel_rfl) (by kernel_rfl) (by kernel_rfl) (fun _ _ _ h => h) (Or.inl ⟨?_, ?_⟩) (by assumption) ?_; rotate_left; (focus (first | rfl | (simp [Region.wanted, yielded]; done))); (focus (intro w hSw; (try dsimp only at hSw); go_simp; all_goals (with_reducible rfl))); try simp only [Act.put, List.getElem_toArray, List.getElem_cons_zero, List.getElem_cons_succ, List.setIfInBounds_toArray, List.set_cons_zero, List.set_cons_succ])
          (refine wpAnyH_take (i := 2) (oi := _) (v := ?_) rfl (by kernel_rfl) (by kernel_rfl) (by kernel_rfl) (fun _ _ _ h => h) (Or.inl ⟨?_, ?_⟩) (by assumption) ?_; rotate_left; (focus (first | rfl | (simp [Region.wanted, yielded]; done))); (focus (intro w hSw; (try dsimp only at hSw); go_simp; all_goals (with_reducible rfl))); try simp only [Act.put, List.getElem_toArray, List.getElem_cons_zero, List.getElem_cons_succ, List.setIfInBounds_toArray, List.set_cons_zero, List.set_cons_succ])
          (refine wpAnyH_take (i := 3) (oi := _) (v := ?_) rfl (by kernel_rfl) (by kernel_rfl) (by kernel_rfl) (fun _ _ _ h => h) (Or.inl ⟨?_, ?_⟩) (by assumption) ?_; rotate_left; (focus (first | rfl | (simp [Region.wanted, yielded]; done))); (focus (intro w hSw; (try dsimp only at hSw); go_simp; all_goals (with_reducible rfl))); try simp only [Act.put, List.getElem_toArray, List.getElem_cons_zero, List.getElem_cons_succ, List.setIfInBounds_toArray, List.set_cons_zero, List.set_cons_succ])
          (refine wpAnyH_take (i := 4) (oi := _) (v := ?_) rfl (by kernel_rfl) (by kernel_rfl) (by kernel_rfl) (fun _ _ _ h => h) (Or.inl ⟨?_, ?_⟩) (by assumption) ?_; rotate_left; (focus (first | rfl | (simp [Region.wanted, yielded]; done))); (focus (intro w hSw; (try dsimp only at hSw); go_simp; all_goals (with_reducible rfl))); try simp only [Act.put, List.getElem_toArray, List.getElem_cons_zero, List.getElem_cons_succ, List.setIfInBounds_toArray, List.set_cons_zero, List.set_cons_succ])
          (refine wpAnyH_take (i := 5) (oi := _) (v := ?_) rfl (by kernel_rfl) (by kernel_rfl) (by kernel_rfl) (fun _ _ _ h => h) (Or.inl ⟨?_, ?_⟩) (by assumption) ?_; rotate_left; (focus (first | rfl | (simp [Region.wanted, yielded]; done))); (focus (intro w hSw; (try dsimp only at hSw); go_simp; all_goals (with_reducible rfl))); try simp only [Act.put, List.getElem_toArray, List.getElem_cons_zero, List.getElem_cons_succ, List.setIfInBounds_toArray, List.set_cons_zero, List.set_cons_succ])
          (refine wpAnyH_take (i := 6) (oi := _) (v := ?_) rfl (by kernel_rfl) (by kernel_rfl) (by kernel_rfl) (fun _ _ _ h => h) (Or.inl ⟨?_, ?_⟩) (by assumption) ?_; rotate_left; (focus (first | rfl | (simp [Region.wanted, yielded]; done))); (focus (intro w hSw; (try dsimp only at hSw); go_simp; all_goals (with_reducible rfl))); try simp only [Act.put, List.getElem_toArray, List.getElem_cons_zero, List.getElem_cons_succ, List.setIfInBounds_toArray, List.set_cons_zero, List.set_cons_succ])
          (refine wpAnyH_take (i := 7) (oi := _) (v := ?_) rfl (by kernel_rfl) (by kernel_rfl) (by kernel_rfl) (fun _ _ _ h => h) (Or.inl ⟨?_, ?_⟩) (by assumption) ?_; rotate_left; (focus (first | rfl | (simp [Region.wanted, yielded]; done))); (focus (intro w hSw; (try dsimp only at hSw); go_simp; all_goals (with_reducible rfl))); try simp only [Act.put, List.getElem_toArray, List.getElem_cons_zero, List.getElem_cons_succ, List.setIfInBounds_toArray, List.set_cons_zero, List.set_cons_succ])
          (refine wpAnyH_take (i := 8) (oi := _) (v := ?_) rfl (by kernel_rfl) (by kernel_rfl) (by kernel_rfl) (fun _ _ _ h => h) (Or.inl ⟨?_, ?_⟩) (by assumption) ?_; rotate_left; (focus (first | rfl | (simp [Region.wanted, yielded]; done))); (focus (intro w hSw; (try dsimp only at hSw); go_simp; all_goals (with_reducible rfl))); try simp only [Act.put, List.getElem_toArray, List.getElem_cons_zero, List.getElem_cons_succ, List.setIfInBounds_toArray, List.set_cons_zero, List.set_cons_succ])
          (refine wpAnyH_take (i := 9) (oi := _) (v := ?_) rfl (by kernel_rfl) (by kernel_rfl) (by kernel_rfl) (fun _ _ _ h => h) (Or.inl ⟨?_, ?_⟩) (by assumption) ?_; rotate_left; (focus (first | rfl | (simp [Region.wanted, yielded]; done))); (focus (intro w hSw; (try dsimp only at hSw); go_simp; all_goals (with_reducible rfl))); try simp only [Act.put, List.getElem_toArray, List.getElem_cons_zero, List.getElem_cons_succ, List.setIfInBounds_toArray, List.set_cons_zero, List.set_cons_succ])
          (refine wpAnyH_take (i := 10) (oi := _) (v := ?_) rfl (by kernel_rfl) (by kernel_rfl) (by kernel_rfl) (fun _ _ _ h => h) (Or.inl ⟨?_, ?_⟩) (by assumption) ?_; rotate_left; (focus (first | rfl | (simp [Region.wanted, yielded]; done))); (focus (intro w hSw; (try dsimp only at hSw); go_simp; all_goals (with_reducible rfl))); try simp only [Act.put, List.getElem_toArray, List.getElem_cons_zero, List.getElem_cons_succ, List.setIfInBounds_toArray, List.set_cons_zero, List.set_cons_succ])
          (refine wpAnyH_take (i := 12) (oi := _) (v := ?_) rfl (by kernel_rfl) (by kernel_rfl) (by kernel_rfl) (fun _ _ _ h => h) (Or.inl ⟨?_, ?_⟩) (by assumption) ?_; rotate_left; (focus (first | rfl | (simp [Region.wanted, yielded]; done))); (focus (intro w hSw; (try dsimp only at hSw); go_simp; all_goals (with_reducible rfl))); try simp only [Act.put, List.getElem_toArray, List.getElem_cons_zero, List.getElem_cons_succ, List.setIfInBounds_toArray, List.set_cons_zero, List.set_cons_succ])
          (refine wpAnyH_take (i := 14) (oi := _) (v := ?_) rfl (by kernel_rfl) (by kernel_rfl) (by kernel_rfl) (fun _ _ _ h => h) (Or.inl ⟨?_, ?_⟩) (by assumption) ?_; rotate_left; (focus (first | rfl | (simp [Region.wanted, yielded]; done))); (focus (intro w hSw; (try dsimp only at hSw); go_simp; all_goals (with_reducible rfl))); try simp only [Act.put, List.getElem_toArray, List.getElem_cons_zero, List.getElem_cons_succ, List.setIfInBounds_toArray, List.set_cons_zero, List.set_cons_succ])
          (refine wpAnyH_take (i := 15) (oi := _) (v := ?_) rfl (by kernel_rfl) (by kernel_rfl) (by kernel_rfl) (fun _ _ _ h => h) (Or.inl ⟨?_, ?_⟩) (by assumption) ?_; rotate_left; (focus (first | rfl | (simp [Region.wanted, yielded]; done))); (focus (intro w hSw; (try dsimp only at hSw); go_simp; all_goals (with_reducible rfl))); try simp only [Act.put, List.getElem_toArray, List.getElem_cons_zero, List.getElem_cons_succ, List.setIfInBounds_toArray, List.set_cons_zero, List.set_cons_succ])
          (refine wpAnyH_ready (rs := [11, 16]) (by kernel_rfl) (by simp) ?_; refine AllReadyH.cons (o := _) rfl (fun K hK => ?_) (AllReadyH.cons (o := _) rfl (fun K hK => ?_) AllReadyH.nil))
          focus
            go_simp
            (refine hK.out _ _ rfl (fun hHeld2 => ?_); clear hK K hHeld; have hHeld := hHeld2; clear hHeld2; try simp only [Act.put, List.getElem_toArray, List.getElem_cons_zero, List.getElem_cons_succ, List.setIfInBounds_toArray, List.set_cons_zero, List.set_cons_succ])
            (refine wpAnyH_ready (rs := [13, 16]) (by kernel_rfl) (by simp) ?_; refine AllReadyH.cons (o := _) rfl (fun K hK => ?_) (AllReadyH.cons (o := _) rfl (fun K hK => ?_) AllReadyH.nil))
            focus
              go_simp
              refine (WR.out _ (rd_drew RI5.out)).mono ?_
              rintro e w6 ⟨v1, rfl, o1, b6'⟩
              have b6 := belowD b6'
              clear b6'
              have S6 : w6.heap[q]? = w5.heap[q]? := b6.block q qz5
              (refine hK.out _ _ S6 (fun hHeld2 => ?_); clear hK K hHeld; have hHeld := hHeld2; clear hHeld2; try simp only [Act.put, List.getElem_toArray, List.getElem_cons_zero, List.getElem_cons_succ, List.setIfInBounds_toArray, List.set_cons_zero, List.set_cons_succ])
              (refine wpAnyH_ready (rs := [16]) (by kernel_rfl) (by simp) ?_; refine AllReadyH.cons (o := _) rfl (fun K hK => ?_) AllReadyH.nil; go_simp)
              (refine hK.out _ _ ((alloc_old _ _ (Nat.lt_of_lt_of_le qz5 b6.size)).trans S6) (fun hHeld2 => ?_); clear hK K hHeld; have hHeld := hHeld2; clear hHeld2; try simp only [Act.put, List.getElem_toArray, List.getElem_cons_zero, List.getElem_cons_succ, List.setIfInBounds_toArray, List.set_cons_zero, List.set_cons_succ])
              have b2 := b6.trans ((Below.refl w6.heap.size w6).alloc (Nat.le_refl _) (.cells #[.string (mkB key), .string .empty, .int .i64 0] 68) |>.mono b6.size)
              have LW : (withoutL l key).length ≤ 100000 := Nat.le_trans (List.length_filter_le _ _) (by omega)
              (refine wpAnyH_ready (rs := [17]) (by kernel_rfl) (by simp) ?_; refine AllReadyH.cons (o := _) rfl (fun K hK => ?_) AllReadyH.nil)
              refine step_appG rfl (.tmp 67) (.tmp 70) 54 rfl Try.underlying54 info_ent rfl (by decide) _ (withoutL l key).length (entsC (withoutL l key)) _ _ rfl ?_ rfl rfl (heap_alloc_new w6 _) ((own0 o1).alloc _) (by omega) (by omega) ?_
              · intro y hy
                simp at hy
                rcases hy with rfl | rfl | rfl <;> rfl
              intro g' c' u1 hown hg1 hloc
              have b7 : Below w5.heap.size w5 u1 := ⟨hg1.os.trans b2.os, hg1.tape.trans b2.tape, hg1.output.trans b2.output, Nat.le_trans b2.size hg1.size, fun k hk => (hg1.block k (Nat.lt_of_lt_of_le hk b2.size) (fun e => by have := (o1.lt k e.symm).1; simp at this; omega)).trans (b2.block k hk)⟩
              have yi7 : u1.cell? ⟨gr, i, none⟩ = some (.slice Ai l.length cI) := (World.cell?_of_block (a := ⟨gr, i, none⟩) (b7.block gr gz5)).trans yi5
              have fi7 : u1.frozen? ⟨gr, i, none⟩ = false := (World.frozen?_of_block (a := ⟨gr, i, none⟩) (b7.block gr gz5)).trans fi5
              have S7 : u1.heap[q]? = w5.heap[q]? := b7.block q qz5
              have e7 : (withoutL l key ++ [(⟨key, [], 0⟩ : Ent)]).length = (withoutL l key).length + 1 := by simp
              have own7 : u1.ownsRow 0 68 3 (.slice (some ⟨g', 0, none⟩) ((withoutL l key).length + 1) c') (withoutL l key ++ [(⟨key, [], 0⟩ : Ent)]).length (entsC (withoutL l key ++ [(⟨key, [], 0⟩ : Ent)])) := by
                rw [e7, entsC_app]; exact hown
              have M7 := HM5.out.below b7
              rw [hvr] at M7
              have M8 := M7.readerSet (i := i) (by omega) own7
              have gX : G gr ∨ w.heap.size ≤ gr := HG.out gr (HM5.out.gr gr (by rw [hvr]; rfl))
              have nX : G g' ∨ w.heap.size ≤ g' := .inr (by
                have z5 := HU5.out.size
                have z2 := b2.size
                rcases hloc with e | e
                · have := (o1.lt g' e).1; simp at this; omega
                · exact Nat.le_trans z5 (Nat.le_trans z2 e))
              have U8 : But G w (u1.setCell ⟨gr, i, none⟩ (.slice (some ⟨g', 0, none⟩) ((withoutL l key).length + 1) c')) := by
                have u7 := HU5.out.thenB (b7.mono HU5.out.size)
                rcases gX with e | e
                · exact u7.set (p := ⟨gr, i, none⟩) e _
                · refine ⟨u7.os, u7.tape, u7.output, ?_, fun k hk hx => (Below.heap_setCell _ _ _ _ (fun e' => by have e' : k = gr := e'; omega)).trans (u7.block k hk hx)⟩
                  have := u7.size
                  simpa [World.setCell] using this
              have FIN : Hid (Rw w G q { t with kept := withoutL t.kept key, newest := withoutL t.newest key, readers := (t.readers.take (i + 1)).map (fgtR key) ++ t.readers.drop (i + 1) } (.slice (some ⟨gr, 0, none⟩) vs'.length cr) (u1.setCell ⟨gr, i, none⟩ (.slice (some ⟨g', 0, none⟩) ((withoutL l key).length + 1) c'))) := Lib.hid (by
                rw [FS.out, F3.out]
                exact ⟨_, _, _, _, _, M8, fun g hg => hg.elim (HG.out g) (fun e => by
                  have e : some g' = some g := e
                  injection e with e; rw [← e]; exact nX), U8⟩)
              have hgr7 := (own7.lt g' rfl).2
              clear M7 M8 own7 U8 hown hg1 hloc e7
              (refine hK.out _ _ S7 (fun hHeld2 => ?_); clear hK K hHeld; have hHeld := hHeld2; clear hHeld2; try simp only [Act.put, List.getElem_toArray, List.getElem_cons_zero, List.getElem_cons_succ, List.setIfInBounds_toArray, List.set_cons_zero, List.set_cons_succ])
              (refine wpAnyH_take (i := 18) (oi := _) (v := ?_) rfl (by kernel_rfl) (by kernel_rfl) (by kernel_rfl) (fun _ _ _ h => h) (Or.inl ⟨?_, ?_⟩) (by assumption) ?_; rotate_left; (focus (first | rfl | (simp [Region.wanted, yielded]; done))); (focus (intro w hSw; (try dsimp only at hSw); go_simp; all_goals (with_reducible rfl))); try simp only [Act.put, List.getElem_toArray, List.getElem_cons_zero, List.getElem_cons_succ, List.setIfInBounds_toArray, List.set_cons_zero, List.set_cons_succ])
              (refine wpAnyH_ready (rs := [19]) (by kernel_rfl) (by simp) ?_; refine AllReadyH.cons (o := _) rfl (fun K hK => ?_) AllReadyH.nil; go_simp)
              (refine hK.out _ _ ((Below.heap_setCell _ _ _ _ (fun e => HM5.out.ne_q HM5.out.er (by decide) (g := gr) (by rw [hvr]; rfl) e.symm)).trans S7) (fun hHeld2 => ?_); clear hK K hHeld; have hHeld := hHeld2; clear hHeld2; try simp only [Act.put, List.getElem_toArray, List.getElem_cons_zero, List.getElem_cons_succ, List.setIfInBounds_toArray, List.set_cons_zero, List.set_cons_succ])
              (refine wpAnyH_done (by kernel_rfl) ?_ _; refine NoPanic.normal ?_)
              clear hHeld C2
              go_wp2_with fail
              refine ⟨⟨i + 1, by omega, by go_num, ?_⟩, by simp [intOf]; omega⟩
              rw [hvr]
              exact FIN
            focus
              go_simp
              (refine hK.out _ _ (alloc_old _ _ qz5) (fun hHeld2 => ?_); clear hK K hHeld; have hHeld := hHeld2; clear hHeld2; try simp only [Act.put, List.getElem_toArray, List.getElem_cons_zero, List.getElem_cons_succ, List.setIfInBounds_toArray, List.set_cons_zero, List.set_cons_succ])
              (refine wpAnyH_ready (rs := [13]) (by kernel_rfl) (by simp) ?_; refine AllReadyH.cons (o := _) rfl (fun K hK => ?_) AllReadyH.nil; go_simp)
              have ba := (Below.refl w5.heap.size w5).alloc (Nat.le_refl _) (.cells #[.string (mkB key), .string .empty, .int .i64 0] 68)
              refine (WR.out _ (rd_drew (RI5.out.below ba))).mono ?_
              rintro e w6 ⟨v1, rfl, o1, b6'⟩
              have b6 : Below w5.heap.size (w5.alloc (.cells #[.string (mkB key), .string .empty, .int .i64 0] 68)) w6 := (belowD b6').mono ba.size
              have hba : w6.heap[w5.heap.size]? = some (.cells #[.string (mkB key), .string .empty, .int .i64 0] 68 (0, 0)) := ((belowD b6').block _ (by simp)).trans (heap_alloc_new w5 _)
              clear b6'
              (refine hK.out _ _ ((b6.block q qz5).trans (alloc_old _ _ qz5)) (fun hHeld2 => ?_); clear hK K hHeld; have hHeld := hHeld2; clear hHeld2; try simp only [Act.put, List.getElem_toArray, List.getElem_cons_zero, List.getElem_cons_succ, List.setIfInBounds_toArray, List.set_cons_zero, List.set_cons_succ])
              have b2 := ba.trans b6
              have LW : (withoutL l key).length ≤ 100000 := Nat.le_trans (List.length_filter_le _ _) (by omega)
              (refine wpAnyH_ready (rs := [17]) (by kernel_rfl) (by simp) ?_; refine AllReadyH.cons (o := _) rfl (fun K hK => ?_) AllReadyH.nil)
              refine step_appG rfl (.tmp 67) (.tmp 70) 54 rfl Try.underlying54 info_ent rfl (by decide) _ (withoutL l key).length (entsC (withoutL l key)) _ _ rfl ?_ rfl rfl hba (own0 o1) (by omega) (by omega) ?_
              · intro y hy
                simp at hy
                rcases hy with rfl | rfl | rfl <;> rfl
              intro g' c' u1 hown hg1 hloc
              have b7 : Below w5.heap.size w5 u1 := ⟨hg1.os.trans b2.os, hg1.tape.trans b2.tape, hg1.output.trans b2.output, Nat.le_trans b2.size hg1.size, fun k hk => (hg1.block k (Nat.lt_of_lt_of_le hk b2.size) (fun e => by have := (o1.lt k e.symm).1; simp at this; omega)).trans (b2.block k hk)⟩
              have yi7 : u1.cell? ⟨gr, i, none⟩ = some (.slice Ai l.length cI) := (World.cell?_of_block (a := ⟨gr, i, none⟩) (b7.block gr gz5)).trans yi5
              have fi7 : u1.frozen? ⟨gr, i, none⟩ = false := (World.frozen?_of_block (a := ⟨gr, i, none⟩) (b7.block gr gz5)).trans fi5
              have S7 : u1.heap[q]? = w5.heap[q]? := b7.block q qz5
              have e7 : (withoutL l key ++ [(⟨key, [], 0⟩ : Ent)]).length = (withoutL l key).length + 1 := by simp
              have own7 : u1.ownsRow 0 68 3 (.slice (some ⟨g', 0, none⟩) ((withoutL l key).length + 1) c') (withoutL l key ++ [(⟨key, [], 0⟩ : Ent)]).length (entsC (withoutL l key ++ [(⟨key, [], 0⟩ : Ent)])) := by
                rw [e7, entsC_app]; exact hown
              have M7 := HM5.out.below b7
              rw [hvr] at M7
              have M8 := M7.readerSet (i := i) (by omega) own7
              have gX : G gr ∨ w.heap.size ≤ gr := HG.out gr (HM5.out.gr gr (by rw [hvr]; rfl))
              have nX : G g' ∨ w.heap.size ≤ g' := .inr (by
                have z5 := HU5.out.size
                have z2 := b2.size
                rcases hloc with e | e
                · have := (o1.lt g' e).1; simp at this; omega
                · exact Nat.le_trans z5 (Nat.le_trans z2 e))
              have U8 : But G w (u1.setCell ⟨gr, i, none⟩ (.slice (some ⟨g', 0, none⟩) ((withoutL l key).length + 1) c')) := by
                have u7 := HU5.out.thenB (b7.mono HU5.out.size)
                rcases gX with e | e
                · exact u7.set (p := ⟨gr, i, none⟩) e _
                · refine ⟨u7.os, u7.tape, u7.output, ?_, fun k hk hx => (Below.heap_setCell _ _ _ _ (fun e' => by have e' : k = gr := e'; omega)).trans (u7.block k hk hx)⟩
                  have := u7.size
                  simpa [World.setCell] using this
              have FIN : Hid (Rw w G q { t with kept := withoutL t.kept key, newest := withoutL t.newest key, readers := (t.readers.take (i + 1)).map (fgtR key) ++ t.readers.drop (i + 1) } (.slice (some ⟨gr, 0, none⟩) vs'.length cr) (u1.setCell ⟨gr, i, none⟩ (.slice (some ⟨g', 0, none⟩) ((withoutL l key).length + 1) c'))) := Lib.hid (by
                rw [FS.out, F3.out]
                exact ⟨_, _, _, _, _, M8, fun g hg => hg.elim (HG.out g) (fun e => by
                  have e : some g' = some g := e
                  injection e with e; rw [← e]; exact nX), U8⟩)
              have hgr7 := (own7.lt g' rfl).2
              clear M7 M8 own7 U8 hown hg1 hloc e7
              (refine hK.out _ _ S7 (fun hHeld2 => ?_); clear hK K hHeld; have hHeld := hHeld2; clear hHeld2; try simp only [Act.put, List.getElem_toArray, List.getElem_cons_zero, List.getElem_cons_succ, List.setIfInBounds_toArray, List.set_cons_zero, List.set_cons_succ])
              (refine wpAnyH_take (i := 18) (oi := _) (v := ?_) rfl (by kernel_rfl) (by kernel_rfl) (by kernel_rfl) (fun _ _ _ h => h) (Or.inl ⟨?_, ?_⟩) (by assumption) ?_; rotate_left; (focus (first | rfl | (simp [Region.wanted, yielded]; done))); (focus (intro w hSw; (try dsimp only at hSw); go_simp; all_goals (with_reducible rfl))); try simp only [Act.put, List.getElem_toArray, List.getElem_cons_zero, List.getElem_cons_succ, List.setIfInBounds_toArray, List.set_cons_zero, List.set_cons_succ])
              (refine wpAnyH_ready (rs := [19]) (by kernel_rfl) (by simp) ?_; refine AllReadyH.cons (o := _) rfl (fun K hK => ?_) AllReadyH.nil; go_simp)
              (refine hK.out _ _ ((Below.heap_setCell _ _ _ _ (fun e => HM5.out.ne_q HM5.out.er (by decide) (g := gr) (by rw [hvr]; rfl) e.symm)).trans S7) (fun hHeld2 => ?_); clear hK K hHeld; have hHeld := hHeld2; clear hHeld2; try simp only [Act.put, List.getElem_toArray, List.getElem_cons_zero, List.getElem_cons_succ, List.setIfInBounds_toArray, List.set_cons_zero, List.set_cons_succ])
              (refine wpAnyH_done (by kernel_rfl) ?_ _; refine NoPanic.normal ?_)
              clear hHeld C2
              go_wp2_with fail
              refine ⟨⟨i + 1, by omega, by go_num, ?_⟩, by simp [intOf]; omega⟩
              rw [hvr]
              exact FIN
          focus
            go_simp
            (refine hK.out _ _ (alloc_old _ _ qz5) (fun hHeld2 => ?_); clear hK K hHeld; have hHeld := hHeld2; clear hHeld2; try simp only [Act.put, List.getElem_toArray, List.getElem_cons_zero, List.getElem_cons_succ, List.setIfInBounds_toArray, List.set_cons_zero, List.set_cons_succ])
            (refine wpAnyH_ready (rs := [11]) (by kernel_rfl) (by simp) ?_; refine AllReadyH.cons (o := _) rfl (fun K hK => ?_) AllReadyH.nil; go_simp)
            (refine hK.out _ _ (alloc_old _ _ qz5) (fun hHeld2 => ?_); clear hK K hHeld; have hHeld := hHeld2; clear hHeld2; try simp only [Act.put, List.getElem_toArray, List.getElem_cons_zero, List.getElem_cons_succ, List.setIfInBounds_toArray, List.set_cons_zero, List.set_cons_succ])
            (refine wpAnyH_ready (rs := [13]) (by kernel_rfl) (by simp) ?_; refine AllReadyH.cons (o := _) rfl (fun K hK => ?_) AllReadyH.nil; go_simp)
            have ba := (Below.refl w5.heap.size w5).alloc (Nat.le_refl _) (.cells #[.string (mkB key), .string .empty, .int .i64 0] 68)
            refine (WR.out _ (rd_drew (RI5.out.below ba))).mono ?_
            rintro e w6 ⟨v1, rfl, o1, b6'⟩
            have b6 : Below w5.heap.size (w5.alloc (.cells #[.string (mkB key), .string .empty, .int .i64 0] 68)) w6 := (belowD b6').mono ba.size
            have hba : w6.heap[w5.heap.size]? = some (.cells #[.string (mkB key), .string .empty, .int .i64 0] 68 (0, 0)) := ((belowD b6').block _ (by simp)).trans (heap_alloc_new w5 _)
            clear b6'
            (refine hK.out _ _ ((b6.block q qz5).trans (alloc_old _ _ qz5)) (fun hHeld2 => ?_); clear hK K hHeld; have hHeld := hHeld2; clear hHeld2; try simp only [Act.put, List.getElem_toArray, List.getElem_cons_zero, List.getElem_cons_succ, List.setIfInBounds_toArray, List.set_cons_zero, List.set_cons_succ])
            have b2 := ba.trans b6
            have LW : (withoutL l key).length ≤ 100000 := Nat.le_trans (List.length_filter_le _ _) (by omega)
            (refine wpAnyH_ready (rs := [17]) (by kernel_rfl) (by simp) ?_; refine AllReadyH.cons (o := _) rfl (fun K hK => ?_) AllReadyH.nil)
            refine step_appG rfl (.tmp 67) (.tmp 70) 54 rfl Try.underlying54 info_ent rfl (by decide) _ (withoutL l key).length (entsC (withoutL l key)) _ _ rfl ?_ rfl rfl hba (own0 o1) (by omega) (by omega) ?_
            · intro y hy
              simp at hy
              rcases hy with rfl | rfl | rfl <;> rfl
            intro g' c' u1 hown hg1 hloc
            have b7 : Below w5.heap.size w5 u1 := ⟨hg1.os.trans b2.os, hg1.tape.trans b2.tape, hg1.output.trans b2.output, Nat.le_trans b2.size hg1.size, fun k hk => (hg1.block k (Nat.lt_of_lt_of_le hk b2.size) (fun e => by have := (o1.lt k e.symm).1; simp at this; omega)).trans (b2.block k hk)⟩
            have yi7 : u1.cell? ⟨gr, i, none⟩ = some (.slice Ai l.length cI) := (World.cell?_of_block (a := ⟨gr, i, none⟩) (b7.block gr gz5)).trans yi5
            have fi7 : u1.frozen? ⟨gr, i, none⟩ = false := (World.frozen?_of_block (a := ⟨gr, i, none⟩) (b7.block gr gz5)).trans fi5
            have S7 : u1.heap[q]? = w5.heap[q]? := b7.block q qz5
            have e7 : (withoutL l key ++ [(⟨key, [], 0⟩ : Ent)]).length = (withoutL l key).length + 1 := by simp
            have own7 : u1.ownsRow 0 68 3 (.slice (some ⟨g', 0, none⟩) ((withoutL l key).length + 1) c') (withoutL l key ++ [(⟨key, [], 0⟩ : Ent)]).length (entsC (withoutL l key ++ [(⟨key, [], 0⟩ : Ent)])) := by
              rw [e7, entsC_app]; exact hown
            have M7 := HM5.out.below b7
            rw [hvr] at M7
            have M8 := M7.readerSet (i := i) (by omega) own7
            have gX : G gr ∨ w.heap.size ≤ gr := HG.out gr (HM5.out.gr gr (by rw [hvr]; rfl))
            have nX : G g' ∨ w.heap.size ≤ g' := .inr (by
              have z5 := HU5.out.size
              have z2 := b2.size
              rcases hloc with e | e
              · have := (o1.lt g' e).1; simp at this; omega
              · exact Nat.le_trans z5 (Nat.le_trans z2 e))
            have U8 : But G w (u1.setCell ⟨gr, i, none⟩ (.slice (some ⟨g', 0, none⟩) ((withoutL l key).length + 1) c')) := by
              have u7 := HU5.out.thenB (b7.mono HU5.out.size)
              rcases gX with e | e
              · exact u7.set (p := ⟨gr, i, none⟩) e _
              · refine ⟨u7.os, u7.tape, u7.output, ?_, fun k hk hx => (Below.heap_setCell _ _ _ _ (fun e' => by have e' : k = gr := e'; omega)).trans (u7.block k hk hx)⟩
                have := u7.size
                simpa [World.setCell] using this
            have FIN : Hid (Rw w G q { t with kept := withoutL t.kept key, newest := withoutL t.newest key, readers := (t.readers.take (i + 1)).map (fgtR key) ++ t.readers.drop (i + 1) } (.slice (some ⟨gr, 0, none⟩) vs'.length cr) (u1.setCell ⟨gr, i, none⟩ (.slice (some ⟨g', 0, none⟩) ((withoutL l key).length + 1) c'))) := Lib.hid (by
              rw [FS.out, F3.out]
              exact ⟨_, _, _, _, _, M8, fun g hg => hg.elim (HG.out g) (fun e => by
                have e : some g' = some g := e
                injection e with e; rw [← e]; exact nX), U8⟩)
            have hgr7 := (own7.lt g' rfl).2
            clear M7 M8 own7 U8 hown hg1 hloc e7
            (refine hK.out _ _ S7 (fun hHeld2 => ?_); clear hK K hHeld; have hHeld := hHeld2; clear hHeld2; try simp only [Act.put, List.getElem_toArray, List.getElem_cons_zero, List.getElem_cons_succ, List.setIfInBounds_toArray, List.set_cons_zero, List.set_cons_succ])
            (refine wpAnyH_take (i := 18) (oi := _) (v := ?_) rfl (by kernel_rfl) (by kernel_rfl) (by kernel_rfl) (fun _ _ _ h => h) (Or.inl ⟨?_, ?_⟩) (by assumption) ?_; rotate_left; (focus (first | rfl | (simp [Region.wanted, yielded]; done))); (focus (intro w hSw; (try dsimp only at hSw); go_simp; all_goals (with_reducible rfl))); try simp only [Act.put, List.getElem_toArray, List.getElem_cons_zero, List.getElem_cons_succ, List.setIfInBounds_toArray, List.set_cons_zero, List.set_cons_succ])
            (refine wpAnyH_ready (rs := [19]) (by kernel_rfl) (by simp) ?_; refine AllReadyH.cons (o := _) rfl (fun K hK => ?_) AllReadyH.nil; go_simp)
            (refine hK.out _ _ ((Below.heap_setCell _ _ _ _ (fun e => HM5.out.ne_q HM5.out.er (by decide) (g := gr) (by rw [hvr]; rfl) e.symm)).trans S7) (fun hHeld2 => ?_); clear hK K hHeld; have hHeld := hHeld2; clear hHeld2; try simp only [Act.put, List.getElem_toArray, List.getElem_cons_zero, List.getElem_cons_succ, List.setIfInBounds_toArray, List.set_cons_zero, List.set_cons_succ])
            (refine wpAnyH_done (by kernel_rfl) ?_ _; refine NoPanic.normal ?_)
            clear hHeld C2
            go_wp2_with fail
            refine ⟨⟨i + 1, by omega, by go_num, ?_⟩, by simp [intOf]; omega⟩
            rw [hvr]
            exact FIN
        · have FR : findR l key = -1 := by unfold findR; rw [if_neg hf]
          rw [FR]
          have F2 := FG.out
          rw [if_neg hf] at F2
          have F3 := Lib.hid (FSS.out F2)
          clear FR F2 FG FSS FS
          go_wp2_with fail
          refine ⟨⟨i + 1, by omega, by go_num, ?_⟩, by simp [intOf]; omega⟩
          rw [F3.out]
          exact Lib.hid ⟨G', vn', vo', vk', vs', HM5.out, HG.out, HU5.out⟩
      · have d1 : ¬ (i : Int) < (vs'.length : Int) := by omega
        have ti : (t.readers.take i).map (fgtR key) ++ t.readers.drop i = t.readers.map (fgtR key) := by
          rw [List.take_of_length_le (by omega), List.drop_eq_nil_of_le (by omega), List.append_nil]
        rw [ti] at hm
        have RP : Hid (RefPost w q G { t with kept := withoutL t.kept key, newest := withoutL t.newest key, readers := t.readers.map (fgtR key) } wr) := Lib.hid ⟨G', ⟨_, _, _, _, _, hm⟩, hG, hU⟩
        clear hm hG hU RW hRr ti
        go_wp2_with fail
        go_ret
        exact ⟨by rw [RE3.out]; rfl, by rw [RE3.out]; exact RP.out⟩
  · have FR : findR t.kept key = -1 := by unfold findR; rw [if_neg hf]
    rw [FR]
    have RE2 := RE.out
    rw [if_neg hf] at RE2
    have RE3 := Lib.hid RE2
    have RB1 : Hid (RefPost w q G t w1) := Lib.hid ⟨G, ⟨vn, vr, vo, vk, vs, H.out.below b1⟩, fun g hg => .inl hg, But.of_below b1⟩
    clear RE RE2 FR b1 FD hf
    go_wp2_with fail
    go_ret
    exact ⟨by rw [RE3.out]; rfl, by rw [RE3.out]; exact RB1.out⟩
end Go.Proofs.Ytfhgidbmeifflaa
