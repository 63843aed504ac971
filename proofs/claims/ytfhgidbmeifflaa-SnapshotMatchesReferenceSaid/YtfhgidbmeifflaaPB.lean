/- REFERENCE: the shelf in memory; shown, is, Held, Read, New. -/
import Derived.Test.YtfhgidbmeifflaaPA
set_option linter.unusedSimpArgs false
set_option linter.unusedVariables false
namespace Go.Proofs.Ytfhgidbmeifflaa
open Go.RowKit Go.Maps Go.ChangeMaps Go.MapKept Go.WideShapes Go.WideMaps

structure RSh where
  ver : Nat
  newest : List Ent
  readers : List (List Ent)
  opn : List Bool
  kept : List Ent
  count : Nat
theorem own_same {w w' : World} {B size n : Nat} {e : TypeId} {v : Value} {X : List Value} (h : w.ownsRow B e size v n X) (hb : ∀ g, v.ownBlock = some g → w'.heap[g]? = w.heap[g]?) : w'.ownsRow B e size v n X := by
  obtain ⟨h1, h2⟩ := h
  refine ⟨h1, ?_⟩
  rcases h2 with h2 | ⟨g, cap, cur, e1, e2, e3, rest⟩
  · exact .inl h2
  · exact .inr ⟨g, cap, cur, e1, e2, (hb g (by rw [e1]; rfl)).trans e3, rest⟩
structure RefMem (w : World) (q : Nat) (G : Nat → Prop) (t : RSh) (vn vr vo vk : Value) (vs : List Value) : Prop where
  blk : w.heap[q]? = some (.cells #[.int .i64 (t.ver : Int), vn, vr, vo, vk, .int .i64 (t.count : Int)] 58 (0, 0))
  en : w.ownsRow 0 68 3 vn t.newest.length (entsC t.newest)
  ek : w.ownsRow 0 68 3 vk t.kept.length (entsC t.kept)
  er : w.ownsRow 0 54 1 vr vs.length vs
  lr : vs.length = t.readers.length
  el : ∀ i (h : i < vs.length) (h' : i < t.readers.length), w.ownsRow 0 68 3 vs[i] t.readers[i].length (entsC t.readers[i])
  lo : t.opn.length = t.readers.length
  eo : w.ownsRow 0 4 1 vo t.opn.length (t.opn.map .bool)
  gq : G q
  gn : ∀ g, vn.ownBlock = some g → G g
  gk : ∀ g, vk.ownBlock = some g → G g
  gr : ∀ g, vr.ownBlock = some g → G g
  go : ∀ g, vo.ownBlock = some g → G g
  gl : ∀ i (h : i < vs.length) g, vs[i].ownBlock = some g → G g
  lt : ∀ g, G g → g < w.heap.size
def RefAt (w : World) (q : Nat) (G : Nat → Prop) (t : RSh) : Prop := ∃ vn vr vo vk vs, RefMem w q G t vn vr vo vk vs
theorem RefMem.keep {w w' : World} {q : Nat} {G : Nat → Prop} {t : RSh} {vn vr vo vk : Value} {vs : List Value} (h : RefMem w q G t vn vr vo vk vs) (hz : w.heap.size ≤ w'.heap.size) (hb : ∀ g, G g → w'.heap[g]? = w.heap[g]?) : RefMem w' q G t vn vr vo vk vs :=
  ⟨(hb q h.gq).trans h.blk, own_same h.en (fun g hg => hb g (h.gn g hg)), own_same h.ek (fun g hg => hb g (h.gk g hg)), own_same h.er (fun g hg => hb g (h.gr g hg)), h.lr, fun i hi hi' => own_same (h.el i hi hi') (fun g hg => hb g (h.gl i hi g hg)), h.lo, own_same h.eo (fun g hg => hb g (h.go g hg)), h.gq, h.gn, h.gk, h.gr, h.go, h.gl, fun g hg => Nat.lt_of_lt_of_le (h.lt g hg) hz⟩
theorem RefMem.below {w w' : World} {q : Nat} {G : Nat → Prop} {t : RSh} {vn vr vo vk : Value} {vs : List Value} (h : RefMem w q G t vn vr vo vk vs) (hb : Below w.heap.size w w') : RefMem w' q G t vn vr vo vk vs := h.keep hb.size (fun g hg => hb.block g (h.lt g hg))
theorem RefAt.below {w w' : World} {q : Nat} {G : Nat → Prop} {t : RSh} (h : RefAt w q G t) (hb : Below w.heap.size w w') : RefAt w' q G t := by
  obtain ⟨vn, vr, vo, vk, vs, h⟩ := h; exact ⟨vn, vr, vo, vk, vs, h.below hb⟩
theorem RefAt.but {w w' : World} {q : Nat} {F G : Nat → Prop} {t : RSh} (h : RefAt w q G t) (hb : But F w w') (hd : ∀ g, G g → ¬ F g) : RefAt w' q G t := by
  obtain ⟨vn, vr, vo, vk, vs, h⟩ := h; exact ⟨vn, vr, vo, vk, vs, h.keep hb.size (fun g hg => hb.block g (h.lt g hg) (hd g hg))⟩
def RefPost (w : World) (q : Nat) (G : Nat → Prop) (t : RSh) (w' : World) : Prop := ∃ G' : Nat → Prop, RefAt w' q G' t ∧ (∀ g, G' g → G g ∨ w.heap.size ≤ g) ∧ But G w w'
theorem RefMem.cells {w : World} {q : Nat} {G : Nat → Prop} {t : RSh} {vn vr vo vk : Value} {vs : List Value} (h : RefMem w q G t vn vr vo vk vs) :
    w.cell? ⟨q, 0, none⟩ = some (.int .i64 (t.ver : Int)) ∧ w.cell? ⟨q, 1, none⟩ = some vn ∧ w.cell? ⟨q, 2, none⟩ = some vr ∧ w.cell? ⟨q, 3, none⟩ = some vo ∧ w.cell? ⟨q, 4, none⟩ = some vk ∧ w.cell? ⟨q, 5, none⟩ = some (.int .i64 (t.count : Int)) :=
  ⟨cell_of_row w q 0 _ _ _ h.blk, cell_of_row w q 1 _ _ _ h.blk, cell_of_row w q 2 _ _ _ h.blk, cell_of_row w q 3 _ _ _ h.blk, cell_of_row w q 4 _ _ _ h.blk, cell_of_row w q 5 _ _ _ h.blk⟩
/-- what a walk needs of a value that is an owned list -/
theorem own_sl {w : World} {B size n : Nat} {e : TypeId} {v : Value} {X : List Value} (h : w.ownsRow B e size v n X) : ∃ A c, v = .slice A n c ∧ Rd w A X := by
  rcases h.2 with ⟨rfl, rfl⟩ | ⟨g, cap, cur, rfl, _⟩
  · exact ⟨none, 0, rfl, own_rd h⟩
  · exact ⟨_, _, rfl, own_rd h⟩
theorem belowDD {B : Nat} {w w' : World} (h : Below B w w') : Below B w w'.drew := ⟨h.os, h.tape, h.output, h.size, h.block⟩
theorem belowNN {B : Nat} {w w' : World} (h : Below B w w') (n : Nat) : Below B w (w'.drewN n) := ⟨h.os, h.tape, h.output, h.size, h.block⟩
def shownB (l : List Ent) (x : Ent) : Bool := match l[findI l x.key]? with
  | some e => decide (e.num = x.num)
  | none => false
def entAgg (x : Ent) : Value := .agg #[.string (mkB x.key), .string (mkB x.val), .int .i64 (x.num : Int)]
set_option maxHeartbeats 1000000 in
theorem shown_any (A : Option Addr) (n c : Nat) (l : List Ent) (x : Ent) (w : World) (hn : n = l.length) (hl : n ≤ 1000000) (h : Rd w A (entsC l)) :
    Calls Try.prog 36 #[.slice A n c, entAgg x] w fun e w' => e = .returned (.bool (shownB l x)) ∧ Below w.heap.size w w' := by
  have H := Lib.hid h
  have HN := Lib.hid hn
  have BA : Below w.heap.size w (w.alloc (.cells #[.string (mkB x.key), .string (mkB x.val), .int .i64 (x.num : Int)] 68)) := (Below.refl _ _).alloc (Nat.le_refl _) _
  have FD := Lib.hid (find_any A n c l x.key _ hn hl (h.below BA))
  have kb := heap_alloc_new w (.cells #[.string (mkB x.key), .string (mkB x.val), .int .i64 (x.num : Int)] 68)
  have BH := Lib.hid BA
  have KB := Lib.hid kb
  have SB : Hid (shownB l x = match l[findI l x.key]? with | some e => decide (e.num = x.num) | none => false) := Lib.hid rfl
  clear h hn BA kb
  unfold entAgg
  generalize shownB l x = R at *
  go_enter Try.func36, Try.ntmps36
  go_wp2_with fail
  refine FD.out.mono ?_
  rintro e w1 ⟨rfl, hb1⟩
  have B1 := Lib.hid (BH.out.trans (hb1.mono BH.out.size))
  have z1 : w.heap.size < w1.heap.size := Nat.lt_of_lt_of_le (by simp) hb1.size
  have k2 : w1.cell? ⟨w.heap.size, 2, none⟩ = some (.int .i64 (x.num : Int)) := cell_of_row w1 _ 2 _ _ _ ((hb1.block _ (by simp)).trans KB.out)
  clear hb1
  by_cases hf : findI l x.key < l.length
  · obtain ⟨b, off, rfl, hb, c0, c1, c2⟩ := ents_at (H.out.below B1.out) hf
    have FR : findR l x.key = (findI l x.key : Int) := by unfold findR; rw [if_pos hf]
    rw [List.getElem?_eq_getElem hf] at SB
    have SB2 : Hid (R = decide (l[findI l x.key].num = x.num)) := Lib.hid SB.out
    have d1 : ((findI l x.key : Nat) : Int) < (n : Int) := by have := HN.out; omega
    have d2 : (0 : Int) ≤ ((findI l x.key : Nat) : Int) := by omega
    clear SB
    generalize l[findI l x.key].num = en at *
    generalize findI l x.key = k at *
    rw [FR]
    clear FR c0 c1 hf
    have EE : Hid (((en : Int) == (x.num : Int)) = R) := Lib.hid (by
      rw [SB2.out, Bool.eq_iff_iff]
      simp
      omega)
    go_wp2_with fail
    go_quiet (fail)
    go_wp2_with fail
    go_ret
    exact ⟨by rw [← EE.out]; rfl, belowNN B1.out _⟩
  · have FR : findR l x.key = -1 := by unfold findR; rw [if_neg hf]
    rw [List.getElem?_eq_none (by omega)] at SB
    rw [FR]
    have SB2 : Hid (R = false) := Lib.hid SB.out
    clear SB
    go_wp2_with fail
    (refine wp_region_noPanic ?_; refine wp_region_held_drew (S := (fun _ => True)) (by kernel_rfl) ?_ (fun hHeld => ?_); exact trivial)
    (refine wpAnyH_take (i := 0) (oi := _) (v := ?_) rfl (by kernel_rfl) (by kernel_rfl) (by kernel_rfl) (fun _ _ _ h => h) (Or.inl ⟨?_, ?_⟩) (by assumption) ?_; rotate_left; (focus (first | rfl | (simp [Region.wanted, yielded]; done))); (focus (intro w hSw; (try dsimp only at hSw); go_simp; all_goals (with_reducible rfl))); try simp only [Act.put, List.getElem_toArray, List.getElem_cons_zero, List.getElem_cons_succ, List.setIfInBounds_toArray, List.set_cons_zero, List.set_cons_succ])
    (refine wpAnyH_take (i := 1) (oi := _) (v := ?_) rfl (by kernel_rfl) (by kernel_rfl) (by kernel_rfl) (fun _ _ _ h => h) (Or.inl ⟨?_, ?_⟩) (by assumption) ?_; rotate_left; (focus (first | rfl | (simp [Region.wanted, yielded]; done))); (focus (intro w hSw; (try dsimp only at hSw); go_simp; all_goals (with_reducible rfl))); try simp only [Act.put, List.getElem_toArray, List.getElem_cons_zero, List.getElem_cons_succ, List.setIfInBounds_toArray, List.set_cons_zero, List.set_cons_succ])
    (refine wpAnyH_take (i := 2) (oi := _) (v := ?_) rfl (by kernel_rfl) (by kernel_rfl) (by kernel_rfl) (fun _ _ _ h => h) (Or.inl ⟨?_, ?_⟩) (by assumption) ?_; rotate_left; (focus (first | rfl | (simp [Region.wanted, yielded]; done))); (focus (intro w hSw; (try dsimp only at hSw); go_simp; all_goals (with_reducible rfl))); try simp only [Act.put, List.getElem_toArray, List.getElem_cons_zero, List.getElem_cons_succ, List.setIfInBounds_toArray, List.set_cons_zero, List.set_cons_succ])
    (refine wpAnyH_take (i := 3) (oi := _) (v := undef) rfl (by kernel_rfl) (by kernel_rfl) (by kernel_rfl) (fun _ _ _ h => h) (Or.inr ⟨?_, rfl⟩) (by assumption) ?_; (focus (first | (simp [Region.wanted, yielded]; done) | (simp [Region.wanted, yielded, undef]; done) | (simp [Region.wanted, yielded]; decide))); try simp only [Act.put, List.getElem_toArray, List.getElem_cons_zero, List.getElem_cons_succ, List.setIfInBounds_toArray, List.set_cons_zero, List.set_cons_succ])
    (refine wpAnyH_take (i := 4) (oi := _) (v := undef) rfl (by kernel_rfl) (by kernel_rfl) (by kernel_rfl) (fun _ _ _ h => h) (Or.inr ⟨?_, rfl⟩) (by assumption) ?_; (focus (first | (simp [Region.wanted, yielded]; done) | (simp [Region.wanted, yielded, undef]; done) | (simp [Region.wanted, yielded]; decide))); try simp only [Act.put, List.getElem_toArray, List.getElem_cons_zero, List.getElem_cons_succ, List.setIfInBounds_toArray, List.set_cons_zero, List.set_cons_succ])
    (refine wpAnyH_take (i := 5) (oi := _) (v := undef) rfl (by kernel_rfl) (by kernel_rfl) (by kernel_rfl) (fun _ _ _ h => h) (Or.inr ⟨?_, rfl⟩) (by assumption) ?_; (focus (first | (simp [Region.wanted, yielded]; done) | (simp [Region.wanted, yielded, undef]; done) | (simp [Region.wanted, yielded]; decide))); try simp only [Act.put, List.getElem_toArray, List.getElem_cons_zero, List.getElem_cons_succ, List.setIfInBounds_toArray, List.set_cons_zero, List.set_cons_succ])
    (refine wpAnyH_take (i := 6) (oi := _) (v := undef) rfl (by kernel_rfl) (by kernel_rfl) (by kernel_rfl) (fun _ _ _ h => h) (Or.inr ⟨?_, rfl⟩) (by assumption) ?_; (focus (first | (simp [Region.wanted, yielded]; done) | (simp [Region.wanted, yielded, undef]; done) | (simp [Region.wanted, yielded]; decide))); try simp only [Act.put, List.getElem_toArray, List.getElem_cons_zero, List.getElem_cons_succ, List.setIfInBounds_toArray, List.set_cons_zero, List.set_cons_succ])
    (refine wpAnyH_take (i := 7) (oi := _) (v := undef) rfl (by kernel_rfl) (by kernel_rfl) (by kernel_rfl) (fun _ _ _ h => h) (Or.inr ⟨?_, rfl⟩) (by assumption) ?_; (focus (first | (simp [Region.wanted, yielded]; done) | (simp [Region.wanted, yielded, undef]; done) | (simp [Region.wanted, yielded]; decide))); try simp only [Act.put, List.getElem_toArray, List.getElem_cons_zero, List.getElem_cons_succ, List.setIfInBounds_toArray, List.set_cons_zero, List.set_cons_succ])
    (refine wpAnyH_take (i := 8) (oi := _) (v := undef) rfl (by kernel_rfl) (by kernel_rfl) (by kernel_rfl) (fun _ _ _ h => h) (Or.inr ⟨?_, rfl⟩) (by assumption) ?_; (focus (first | (simp [Region.wanted, yielded]; done) | (simp [Region.wanted, yielded, undef]; done) | (simp [Region.wanted, yielded]; decide))); try simp only [Act.put, List.getElem_toArray, List.getElem_cons_zero, List.getElem_cons_succ, List.setIfInBounds_toArray, List.set_cons_zero, List.set_cons_succ])
    (refine wpAnyH_take (i := 9) (oi := _) (v := undef) rfl (by kernel_rfl) (by kernel_rfl) (by kernel_rfl) (fun _ _ _ h => h) (Or.inr ⟨?_, rfl⟩) (by assumption) ?_; (focus (first | (simp [Region.wanted, yielded]; done) | (simp [Region.wanted, yielded, undef]; done) | (simp [Region.wanted, yielded]; decide))); try simp only [Act.put, List.getElem_toArray, List.getElem_cons_zero, List.getElem_cons_succ, List.setIfInBounds_toArray, List.set_cons_zero, List.set_cons_succ])
    (refine wpAnyH_take (i := 10) (oi := _) (v := undef) rfl (by kernel_rfl) (by kernel_rfl) (by kernel_rfl) (fun _ _ _ h => h) (Or.inr ⟨?_, rfl⟩) (by assumption) ?_; (focus (first | (simp [Region.wanted, yielded]; done) | (simp [Region.wanted, yielded, undef]; done) | (simp [Region.wanted, yielded]; decide))); try simp only [Act.put, List.getElem_toArray, List.getElem_cons_zero, List.getElem_cons_succ, List.setIfInBounds_toArray, List.set_cons_zero, List.set_cons_succ])
    (refine wpAnyH_take (i := 11) (oi := _) (v := ?_) rfl (by kernel_rfl) (by kernel_rfl) (by kernel_rfl) (fun _ _ _ h => h) (Or.inl ⟨?_, ?_⟩) (by assumption) ?_; rotate_left; (focus (first | rfl | (simp [Region.wanted, yielded]; done))); (focus (intro w hSw; (try dsimp only at hSw); go_simp; all_goals (with_reducible rfl))); try simp only [Act.put, List.getElem_toArray, List.getElem_cons_zero, List.getElem_cons_succ, List.setIfInBounds_toArray, List.set_cons_zero, List.set_cons_succ])
    (refine wpAnyH_take (i := 12) (oi := _) (v := ?_) rfl (by kernel_rfl) (by kernel_rfl) (by kernel_rfl) (fun _ _ _ h => h) (Or.inl ⟨?_, ?_⟩) (by assumption) ?_; rotate_left; (focus (first | rfl | (simp [Region.wanted, yielded]; done))); (focus (intro w hSw; (try dsimp only at hSw); go_simp; all_goals (with_reducible rfl))); try simp only [Act.put, List.getElem_toArray, List.getElem_cons_zero, List.getElem_cons_succ, List.setIfInBounds_toArray, List.set_cons_zero, List.set_cons_succ])
    (refine wpAnyH_done (by kernel_rfl) ?_ _; refine NoPanic.normal ?_)
    clear hHeld
    go_wp2_with fail
    go_ret
    exact ⟨by rw [SB2.out]; rfl, belowDD B1.out⟩
/-- whether a reader is open -/
def isB (t : RSh) (r : Nat) : Bool := match r with
  | 0 => false
  | k + 1 => t.opn.getD k false
set_option maxHeartbeats 1000000 in
theorem is_any (q : Nat) (G : Nat → Prop) (t : RSh) (r : Nat) (w : World) (h : RefAt w q G t) (hr : r ≤ 1000000) :
    Calls Try.prog 30 #[.pointer (some ⟨q, 0, none⟩), .int .i64 (r : Int)] w fun e w' => e = .returned (.bool (isB t r)) ∧ Below w.heap.size w w' := by
  obtain ⟨vn, vr, vo, vk, vs, h⟩ := h
  obtain ⟨x0, x1, x2, x3, x4, x5⟩ := h.cells
  obtain ⟨A, c, rfl, hRd⟩ := own_sl h.eo
  cases r with
  | zero =>
    go_enter Try.func30, Try.ntmps30
    go_wp2_with fail
    go_ret
    exact ⟨rfl, Below.refl _ _⟩
  | succ k =>
    have d1 : (1 : Int) ≤ ((k + 1 : Nat) : Int) := by omega
    by_cases hk : k < t.opn.length
    · have d2 : ((k + 1 : Nat) : Int) ≤ (t.opn.length : Int) := by omega
      obtain ⟨b, off, rfl, hb, c0⟩ := hRd.map_at hk
      have w1 : IntKind.i64.wrap (((k + 1 : Nat) : Int) - 1) = ((k : Nat) : Int) := by rw [show ((k + 1 : Nat) : Int) - 1 = (k : Int) by omega]; exact IntWalk.i64_in _ (by omega)
      have d3 : (k : Int) < (t.opn.length : Int) := by omega
      have d4 : (0 : Int) ≤ (k : Int) := by omega
      have IB : Hid (isB t (k + 1) = t.opn[k]) := Lib.hid (by show t.opn.getD k false = _; rw [List.getD_eq_getElem?_getD, List.getElem?_eq_getElem hk]; rfl)
      generalize isB t (k + 1) = R at *
      generalize t.opn[k] = bo at *
      clear h hRd
      go_enter Try.func30, Try.ntmps30
      go_wp2_with fail
      go_ret
      exact ⟨by rw [IB.out]; rfl, Below.refl _ _⟩
    · have d2 : ¬ ((k + 1 : Nat) : Int) ≤ (t.opn.length : Int) := by omega
      have IB : Hid (isB t (k + 1) = false) := Lib.hid (by show t.opn.getD k false = _; rw [List.getD_eq_getElem?_getD, List.getElem?_eq_none (by omega)]; rfl)
      generalize isB t (k + 1) = R at *
      clear h hRd
      go_enter Try.func30, Try.ntmps30
      go_wp2_with fail
      go_ret
      exact ⟨by rw [IB.out]; rfl, Below.refl _ _⟩
theorem rheld_any (q : Nat) (G : Nat → Prop) (t : RSh) (w : World) (h : RefAt w q G t) :
    Calls Try.prog 16 #[.pointer (some ⟨q, 0, none⟩)] w fun e w' => e = .returned (.int .i64 (t.kept.length : Int)) ∧ Below w.heap.size w w' := by
  obtain ⟨vn, vr, vo, vk, vs, h⟩ := h
  obtain ⟨x0, x1, x2, x3, x4, x5⟩ := h.cells
  obtain ⟨A, c, rfl, hRd⟩ := own_sl h.ek
  clear h hRd
  go_enter Try.func16, Try.ntmps16
  go_wp2_with fail
  go_ret
  exact ⟨rfl, Below.refl _ _⟩
end Go.Proofs.Ytfhgidbmeifflaa
