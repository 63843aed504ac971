/- WALKS: moderate.stateOf, (*entry).obey. -/
import Derived.Test.YtniklmikdkjgiaaGreatDoorMA
import Derived.Test.YtniklmikdkjgiaaGreatDoorMW
import Derived.Test.YtniklmikdkjgiaaGreatDoorWD
set_option linter.unusedSimpArgs false
set_option linter.unusedVariables false
namespace Go.Proofs.YtniklmikdkjgiaaGreatDoor
open Go.RowKit

def okO (o : Int) : Bool := decide (1 ≤ o) && decide (o ≤ 4)
set_option maxHeartbeats 2000000 in
set_option maxRecDepth 100000 in
theorem stateOf_any (o : Int) (w : World) :
    Calls Tryz.prog 131 #[.int .i64 o] w fun e w' => e = .returned (.tuple #[.int .i64 (if okO o then stOf o else 0), .bool (okO o)]) ∧ Below w.heap.size w w' := by
  obtain ⟨X, hX⟩ : ∃ X, X = w.alloc (.cells #[.int .i64 0, .int .i64 1, .int .i64 2, .int .i64 1, .int .i64 3] 205) := ⟨_, rfl⟩
  have BX : Hid (Below w.heap.size w X) := Lib.hid (by rw [hX]; exact (Below.refl _ _).alloc (Nat.le_refl _) _)
  have XX := Lib.hid (show X.heap[w.heap.size]? = some (.cells #[.int .i64 0, .int .i64 1, .int .i64 2, .int .i64 1, .int .i64 3] 205 (0, 0)) by rw [hX]; exact heap_alloc_new w _)
  have HX := Lib.hid hX
  clear hX
  by_cases h1 : o < 1
  · have PM : Hid (okO o = false) := Lib.hid (by unfold okO; rw [decide_eq_false (by omega)]; rfl)
    rw [PM.out]
    go_enter Tryz.func131, Tryz.ntmps131
    go_wp2_with fail
    rw [← HX.out]
    go_ret2
    exact ⟨rfl, BX.out⟩
  by_cases h5 : 5 ≤ o
  · have PM : Hid (okO o = false) := Lib.hid (by unfold okO; rw [decide_eq_false (p := o ≤ 4) (by omega), Bool.and_false])
    rw [PM.out]
    go_enter Tryz.func131, Tryz.ntmps131
    go_wp2_with fail
    rw [← HX.out]
    go_ret2
    exact ⟨rfl, BX.out⟩
  have c1 := load_block (i := 1) XX.out rfl
  have c2 := load_block (i := 2) XX.out rfl
  have c3 := load_block (i := 3) XX.out rfl
  have c4 := load_block (i := 4) XX.out rfl
  obtain rfl | rfl | rfl | rfl : o = 1 ∨ o = 2 ∨ o = 3 ∨ o = 4 := by omega
  all_goals
    clear h1 h5
    go_enter Tryz.func131, Tryz.ntmps131
    go_upto_region 2 with fail
    rw [← HX.out]
    go_wp2_with fail
    go_ret2
    exact ⟨rfl, BX.out⟩
/-- an entry as it lies: own edits, Id, State, By, Edits -/
def enRow (e : Sx) : Array Value := #[e.own.edv, .string (mkB e.id), .int .i64 e.st, .string (mkB e.by_), e.cur.edv]
/-- own edits and Id of the entry stay, all other blocks too -/
structure EnB (bx : Nat) (W : World) (own idv : Value) (u : World) : Prop where
  row : ∃ a b c, u.heap[bx]? = some (.cells #[own, idv, a, b, c] 100 (0, 0))
  but : But (· = bx) W u
theorem EnB.drew {bx : Nat} {W : World} {a b : Value} {u : World} (h : EnB bx W a b u) : EnB bx W a b u.drew := ⟨h.row, h.but.drew⟩
theorem EnB.lt {bx : Nat} {W : World} {a b : Value} {u : World} (h : EnB bx W a b u) : bx < u.heap.size := by obtain ⟨_, _, _, h⟩ := h.row; exact lt_of_block h
theorem EnB.call {bx : Nat} {W : World} {a b : Value} {u u' : World} (h : EnB bx W a b u) (k : Below u.heap.size u u') : EnB bx W a b u' := by
  obtain ⟨x, y, z, hr⟩ := h.row
  exact ⟨⟨x, y, z, (k.block bx (lt_of_block hr)).trans hr⟩, h.but.trans (But.of_below k)⟩
theorem EnB.own {bx : Nat} {W : World} {a b : Value} {u : World} (h : EnB bx W a b u) : u.cell? ⟨bx, 0, none⟩ = some a := by
  obtain ⟨x, y, z, hr⟩ := h.row
  exact load_block (i := 0) hr rfl
theorem EnB.set2 {bx : Nat} {W : World} {a b : Value} {u : World} (h : EnB bx W a b u) (v : Value) : EnB bx W a b (u.setCell ⟨bx, 2, none⟩ v) := by
  obtain ⟨x, y, z, hr⟩ := h.row
  exact ⟨⟨v, y, z, row_put8 (k := 2) hr v⟩, But.set (p := ⟨bx, 2, none⟩) h.but rfl v⟩
theorem EnB.set3 {bx : Nat} {W : World} {a b : Value} {u : World} (h : EnB bx W a b u) (v : Value) : EnB bx W a b (u.setCell ⟨bx, 3, none⟩ v) := by
  obtain ⟨x, y, z, hr⟩ := h.row
  exact ⟨⟨x, v, z, row_put8 (k := 3) hr v⟩, But.set (p := ⟨bx, 3, none⟩) h.but rfl v⟩
theorem EnB.set4 {bx : Nat} {W : World} {a b : Value} {u : World} (h : EnB bx W a b u) (v : Value) : EnB bx W a b (u.setCell ⟨bx, 4, none⟩ v) := by
  obtain ⟨x, y, z, hr⟩ := h.row
  exact ⟨⟨x, y, v, row_put8 (k := 4) hr v⟩, But.set (p := ⟨bx, 4, none⟩) h.but rfl v⟩
theorem mrec_szL (r : RV) : (Tryz.prog.info? 56).map (·.size) = some (rvL r).length := by kernel_rfl
theorem mrec_szA (r : RV) : (Tryz.prog.info? 56).map (·.size) = some (rvL r).toArray.size := by kernel_rfl
theorem en_norm {u : World} {g : Nat} {a b c d e x y z : Value} (h : u.heap[g]? = some (.cells (((#[a, b, c, d, e].setIfInBounds 2 x).setIfInBounds 3 y).setIfInBounds 4 z) 100 (0, 0))) : u.heap[g]? = some (.cells #[a, b, x, y, z] 100 (0, 0)) := h
theorem en_norm4 {u : World} {g : Nat} {a b c d e z : Value} (h : u.heap[g]? = some (.cells (#[a, b, c, d, e].setIfInBounds 4 z) 100 (0, 0))) : u.heap[g]? = some (.cells #[a, b, c, d, z] 100 (0, 0)) := h
/-- behind obey -/
structure EnP (bx : Nat) (e : Sx) (r : RV) (w w' : World) : Prop where
  row : w'.heap[bx]? = some (.cells (enRow (obeyT r e)) 100 (0, 0))
  but : But (· = bx) w w'
theorem obeyT_no {r : RV} (h : okO r.order = false) (e : Sx) : obeyT r e = e := by
  unfold obeyT
  rw [if_neg]
  intro hh
  unfold okO at h
  rw [decide_eq_true hh.1, decide_eq_true hh.2] at h
  cases h
theorem obeyT_yes {r : RV} (h : okO r.order = true) (e : Sx) : obeyT r e = ⟨e.id, stOf r.order, idC r.c, e.own, if r.order = 3 then r else e.own⟩ := by
  unfold obeyT
  rw [if_pos]
  unfold okO at h
  simpa using h
set_option maxHeartbeats 8000000 in
set_option maxRecDepth 100000 in
theorem obey_any (w0 : World) (bx : Nat) (e : Sx) (r : RV) (w : World) (hw : Below w0.heap.size w0 w) (hx : w0.heap.size ≤ bx) (hb : w.heap[bx]? = some (.cells (enRow e) 100 (0, 0))) (h : RvIs w0 r) (hs : RcSz r.c) (ht : Tab w0) (ho : AnySl e.own.edv) :
    Calls Tryz.prog 104 #[.pointer (some ⟨bx, 0, none⟩), rvA r] w fun en w' => en = .returned (.tuple #[]) ∧ EnP bx e r w w' := by
  have lb := lt_of_block hb
  obtain ⟨Ao, no, co, eo⟩ := ho
  unfold rvA
  obtain ⟨W, hW⟩ : ∃ W, W = w.alloc (.cells (rvL r).toArray 56) := ⟨_, rfl⟩
  obtain ⟨br, hbr⟩ : ∃ br, w.heap.size = br := ⟨_, rfl⟩
  have BW : Below w.heap.size w W := by rw [hW]; exact (Below.refl _ _).alloc (Nat.le_refl _) _
  have HX : W.heap[br]? = some (.cells (rvL r).toArray 56 (0, 0)) := by rw [hW, ← hbr]; exact heap_alloc_new w _
  have NE : br ≠ bx := by omega
  have EW : W.heap[bx]? = some (.cells (enRow e) 100 (0, 0)) := (BW.block bx lb).trans hb
  unfold enRow at EW
  rw [eo] at EW
  have EN0 : EnB bx W (.slice Ao no co) (.string (mkB e.id)) W := ⟨⟨_, _, _, EW⟩, But.refl _ _⟩
  have RX : Hid (∀ u, EnB bx W (.slice Ao no co) (.string (mkB e.id)) u → u.rangeAt br 0 (rvL r)) := Lib.hid (fun u hu => by have := range_of_row ((hu.but.block br (lt_of_block HX) NE).trans HX); simpa using this)
  have o9 : ∀ u, EnB bx W (.slice Ao no co) (.string (mkB e.id)) u → u.cell? ⟨br, 9, none⟩ = some (.int .i64 r.order) := fun u hu => by have := RX.out u hu 9 _ rfl; simpa using this
  have o6 : ∀ u, EnB bx W (.slice Ao no co) (.string (mkB e.id)) u → u.cell? ⟨br, 6, none⟩ = some r.edv := fun u hu => by have := RX.out u hu 6 _ rfl; simpa using this
  have oo : ∀ u, EnB bx W (.slice Ao no co) (.string (mkB e.id)) u → u.cell? ⟨bx, 0, none⟩ = some (.slice Ao no co) := fun u hu => hu.own
  have BZ := BW.size
  have KB : Hid (∀ u, EnB bx W (.slice Ao no co) (.string (mkB e.id)) u → Below w0.heap.size w0 u) := Lib.hid (fun u hu => (hw.trans (BW.mono hw.size)).trans (hu.but.below (Nat.le_trans hw.size BZ) (fun k hk => by rw [hk]; exact hx)))
  have IDC : Hid (∀ u, EnB bx W (.slice Ao no co) (.string (mkB e.id)) u → Calls Tryz.prog 37 #[rvA r] u fun e w' => e = .returned (.string (mkB (idC r.c))) ∧ Below u.heap.size u w') := Lib.hid (fun u hu => id_any r u (h.below (KB.out u hu)) hs (ht.keep (KB.out u hu)))
  have FIN : Hid (∀ u (a b c : Value), But (· = bx) W u → u.heap[bx]? = some (.cells #[(.slice Ao no co), .string (mkB e.id), a, b, c] 100 (0, 0)) → #[(.slice Ao no co), .string (mkB e.id), a, b, c] = enRow (obeyT r e) → EnP bx e r w u) := Lib.hid (fun u a b c hb1 hb2 hb3 => ⟨by rw [← hb3]; exact hb2, (But.of_below BW).trans hb1⟩)
  have SO := Lib.hid (stateOf_any r.order)
  have EDH : Hid (∃ A c, r.edv = .slice A r.edits.length c) := Lib.hid (by obtain ⟨A, c, e1, -⟩ := h.ed; exact ⟨A, c, e1⟩)
  have E := Lib.hid EW
  have EN := Lib.hid EN0
  unfold rvA at IDC
  have EO := Lib.hid eo
  clear eo
  have X0 := Lib.hid hW
  have X1 := Lib.hid hbr
  clear h hs ht hb lb EW hw hx BZ NE hW hbr HX BW
  go_enter Tryz.func104, Tryz.ntmps104
  go_upto_region 1 with fail
  rw [← X0.out, X1.out]
  clear X0 X1
  have o9W := o9 W EN0
  clear EN0
  go_wp2_with fail
  (with_reducible refine (SO.out W).mono ?_)
  rintro en u1 ⟨rfl, b1⟩
  have E := Lib.hid ((b1.block bx EN.out.lt).trans E.out)
  have EN := Lib.hid (EN.out.call b1)
  clear b1 SO o9W
  cases hq : okO r.order
  · have PE : Hid (#[(.slice Ao no co), .string (mkB e.id), .int .i64 e.st, .string (mkB e.by_), e.cur.edv] = enRow (obeyT r e)) := Lib.hid (by rw [obeyT_no hq]; unfold enRow; rw [EO.out])
    have FF := Lib.hid (FIN.out u1 _ _ _ EN.out.but E.out PE.out)
    go_wp2_with fail
    refine bodyPost_ret (results_none (by rfl) _ _ _) rfl ?_
    exact ⟨rfl, FF.out⟩
  have PE : Hid (obeyT r e = ⟨e.id, stOf r.order, idC r.c, e.own, if r.order = 3 then r else e.own⟩) := Lib.hid (obeyT_yes hq e)
  rw [if_pos rfl]
  clear hq
  obtain ⟨st, hst⟩ : ∃ st, stOf r.order = st := ⟨_, rfl⟩
  obtain ⟨idv, hidv⟩ : ∃ idv, mkB (idC r.c) = idv := ⟨_, rfl⟩
  have SI := Lib.hid (And.intro hst hidv)
  rw [hst]
  rw [hidv] at IDC
  clear hst hidv
  go_upto_region 3 with fail
  (refine wp_region_noPanic ?_; refine wp_region_held_drew (S := (EnB bx W (.slice Ao no co) (.string (mkB e.id)))) (by kernel_rfl) ?_ (fun hHeld => ?_); exact EnB.drew EN.out)
  have E : Hid (u1.drew.heap[bx]? = _) := E
  generalize u1.drew = ud at *
  clear EN
  (refine tkW 0 ?_; try simp only [gmS])
  (refine tkW 1 ?_; try simp only [gmS])
  (refine tkW 2 ?_; try simp only [gmS])
  (refine tkW 3 ?_; try simp only [gmS])
  (refine ldW 4 56 (.tmp 3) br 0 (rvL r) _ RX.out Tryz.underlying56 (mrec_szL _) ?_; try simp only [gmS])
  (refine tkW 6 ?_; try simp only [gmS])
  (refine tkW 7 ?_; try simp only [gmS])
  (refine tkW 8 ?_; try simp only [gmS])
  (refine tkW 9 ?_; try simp only [gmS])
  refine rdR 5 (fun K hK => ?_)
  go_simp
  (with_reducible refine (IDC.out _ hHeld).mono ?_)
  rintro en u2 ⟨rfl, d2⟩
  have E := Lib.hid ((d2.block bx hHeld.lt).trans E.out)
  (refine hK.out _ _ (EnB.call hHeld d2) (fun hHeld2 => ?_); clear hK K hHeld; have hHeld := hHeld2; clear hHeld2; try simp only [gmS])
  (refine tkW 10 ?_; try simp only [gmS])
  (refine tkW 11 ?_; try simp only [gmS])
  (refine tkW 12 ?_; try simp only [gmS])
  have t2 := cell_of_row _ bx 2 _ _ _ E.out
  simp at t2
  have f2 := free_blk E.out 2
  (refine rdW 13 (fun K hK => ?_))
  go_simp
  have E := Lib.hid (row_put8 (g := bx) (k := 2) (E.out) (.int .i64 st))
  (refine hK.out _ _ (EnB.set2 hHeld (.int .i64 st)) (fun hHeld2 => ?_); clear hK K hHeld; have hHeld := hHeld2; clear hHeld2; try simp only [gmS])
  clear t2 f2
  (refine tkW 14 ?_; try simp only [gmS])
  (refine tkW 15 ?_; try simp only [gmS])
  (refine tkW 16 ?_; try simp only [gmS])
  have t3 := cell_of_row _ bx 3 _ _ _ E.out
  simp at t3
  have f3 := free_blk E.out 3
  (refine rdW 17 (fun K hK => ?_))
  go_simp
  have E := Lib.hid (row_put8 (g := bx) (k := 3) (E.out) (.string idv))
  (refine hK.out _ _ (EnB.set3 hHeld (.string idv)) (fun hHeld2 => ?_); clear hK K hHeld; have hHeld := hHeld2; clear hHeld2; try simp only [gmS])
  clear t3 f3
  (refine tkW 18 ?_; try simp only [gmS])
  (refine tkW 19 ?_; try simp only [gmS])
  (refine tkW 20 ?_; try simp only [gmS])
  have t4 := cell_of_row _ bx 4 _ _ _ E.out
  simp at t4
  have f4 := free_blk E.out 4
  (refine rdW 21 (fun K hK => ?_))
  go_simp
  have E := Lib.hid (row_put8 (g := bx) (k := 4) (E.out) (.slice Ao no co))
  (refine hK.out _ _ (EnB.set4 hHeld ((.slice Ao no co))) (fun hHeld2 => ?_); clear hK K hHeld; have hHeld := hHeld2; clear hHeld2; try simp only [gmS])
  clear t4 f4
  have EN := Lib.hid hHeld
  have E := Lib.hid (en_norm E.out)
  (refine wpAnyH_done (by kernel_rfl) ?_ _; refine NoPanic.normal ?_)
  clear hHeld
  have o9u := o9 _ EN.out
  by_cases h3 : r.order = 3
  · have g3 : (r.order == 3) = true := by rw [h3]; rfl
    obtain ⟨Ae, ce, ve⟩ := EDH.out
    have o6u := o6 _ EN.out
    rw [ve] at o6u
    have PR : Hid (#[.slice Ao no co, .string (mkB e.id), .int .i64 st, .string idv, .slice Ae r.edits.length ce] = enRow (obeyT r e)) := Lib.hid (by rw [PE.out, if_pos h3]; unfold enRow; dsimp only; rw [EO.out, ve, SI.out.1, SI.out.2])
    have t4 := cell_of_row _ bx 4 _ _ _ E.out
    have f4 := free_blk E.out 4
    simp at t4
    have FF := Lib.hid (FIN.out _ _ _ _ (EnB.set4 EN.out (.slice Ae r.edits.length ce)).but (en_norm4 (row_put8 (g := bx) (k := 4) E.out (.slice Ae r.edits.length ce))) PR.out)
    clear h3 o9 o6 oo
    go_wp2_with fail
    refine bodyPost_end (results_none (by rfl) _ _ _) rfl ?_
    exact ⟨rfl, FF.out⟩
  · have g3 : (r.order == 3) = false := by simpa using h3
    have PR : Hid (#[.slice Ao no co, .string (mkB e.id), .int .i64 st, .string idv, .slice Ao no co] = enRow (obeyT r e)) := Lib.hid (by rw [PE.out, if_neg h3]; unfold enRow; dsimp only; rw [EO.out, SI.out.1, SI.out.2])
    have FF := Lib.hid (FIN.out _ _ _ _ EN.out.but E.out PR.out)
    clear h3 o9 o6 oo
    go_wp2_with fail
    refine bodyPost_end (results_none (by rfl) _ _ _) rfl ?_
    exact ⟨rfl, FF.out⟩
end Go.Proofs.YtniklmikdkjgiaaGreatDoor
