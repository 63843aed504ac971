/- WALK: atlas.Put. -/
import Derived.Test.YtlejeelmlclnkaaGreatDoorBN
set_option linter.unusedSimpArgs false
set_option linter.unusedVariables false
namespace Go.Proofs.YtlejeelmlclnkaaGreatDoor
open Go.RowKit

theorem results_cell2 {P : Program} {w : World} {fn : Func} {i j : Nat} {t : TypeId} {ad : Addr} {tmps : Array Value} {v u : Value} (h : fn.results = #[.cell i t, .tmp j]) (hp : tmps.getD i undef = .pointer (some ad)) (hl : (loadVar t ad).run P w = .ok v w) (hu : tmps.getD j undef = u) : (results fn tmps).run P w = .ok (.tuple #[v, u]) w := by
  have hp2 : tmps[i]?.getD undef = .pointer (some ad) := by simpa using hp
  have hu2 : tmps[j]?.getD undef = u := by simpa using hu
  unfold results
  rw [h]
  simp [Array.mapM_eq_mapM_toList, hp2, hu2, asAddr, Sem.run_bind, hl]
theorem load_map {w : World} {g : Nat} {v : Value} {t : TypeId} (h : w.heap[g]? = some (.cells #[v] t (0, 0))) : (loadVar 24 ⟨g, 0, none⟩).run Tryz.prog w = .ok (.agg #[v]) w :=
  run_loadVar_row w g t 24 #[v] (0, 0) _ h Tryz.underlying24 rfl (by kernel_rfl)
theorem Ms.of_own {w : World} {base n : Nat} {v : Value} {R : List RO} (h : w.ownsRow base 43 6 v n (rosC R)) (hn : n = R.length) (ho : ∀ r ∈ R, ObIs w r) (hs : ∀ r ∈ R, ObSz r.c ∧ r.c.refs.length ≤ 100000) (hl : R.length ≤ 100000) : ∃ A c, v = .slice A R.length c ∧ Ms w A R ∧ R.length ≤ c := by
  subst hn
  rcases h.2 with ⟨e1, e2⟩ | ⟨g, cap, cur, e1, _, _, hc, _⟩
  · subst e1
    obtain rfl := List.eq_nil_of_length_eq_zero e2
    exact ⟨none, 0, rfl, ⟨Rd.nil_ _ _, ho, hs, hl⟩, Nat.le_refl _⟩
  · subst e1
    exact ⟨_, cap, rfl, ⟨own_rd h, ho, hs, hl⟩, hc⟩
/-- a map and an error come back -/
def MapE (w : World) (r : List At.Ob × Nat) (e : Ending) (w' : World) : Prop :=
  ∃ (A : Option Addr) (c : Nat) (R : List RO), e = .returned (.tuple #[.agg #[.slice A R.length c], .int .i64 (r.2 : Int)]) ∧ Ms w' A R ∧ cts R = r.1 ∧ R.length ≤ c ∧ Below w.heap.size w w'
theorem Ms.nil (w : World) : Ms w none [] := ⟨Rd.nil_ _ _, fun r h => (by cases h), fun r h => (by cases h), by simp⟩
def putM (l : List At.Ob) (o : At.Ob) : List At.Ob × Nat := if At.validM l && At.validO o then (At.putF l o, 0) else ([], 1)
theorem cts_set (l : List RO) (i : Nat) (x : RO) : cts (l.set i x) = (cts l).set i x.c := by simp [cts, List.map_set]
theorem cts_ins (l : List RO) (i : Nat) (x : RO) : cts (l.take i ++ x :: l.drop i) = (cts l).take i ++ x.c :: (cts l).drop i := by simp [cts, List.map_take, List.map_drop]
theorem cts_del (l : List RO) (i : Nat) : cts (l.take i ++ l.drop (i + 1)) = (cts l).take i ++ (cts l).drop (i + 1) := by simp [cts, List.map_take, List.map_drop]
theorem own_ne_map {w : World} {base n b : Nat} {v u : Value} {xs : List Value} (h : w.ownsRow base 43 6 v n xs) (h2 : w.heap[b]? = some (.cells #[u] 24 (0, 0))) : v.ownBlock ≠ some b := fun e => by
  rcases h.2 with ⟨rfl, _⟩ | ⟨g, cap, cur, rfl, _, hh, _⟩
  · cases e
  · have e : some g = some b := e
    injection e with e
    subst e
    rw [h2] at hh
    injection hh with hh
    injection hh with _ ht _
    exact absurd ht (by decide)
theorem own_same {w w' : World} {B size n : Nat} {e : TypeId} {v : Value} {X : List Value} (h : w.ownsRow B e size v n X) (hb : ∀ g, v.ownBlock = some g → w'.heap[g]? = w.heap[g]?) : w'.ownsRow B e size v n X := by
  obtain ⟨h1, h2⟩ := h
  refine ⟨h1, ?_⟩
  rcases h2 with h2 | ⟨g, cap, cur, e1, e2, e3, rest⟩
  · exact .inl h2
  · exact .inr ⟨g, cap, cur, e1, e2, (hb g (by rw [e1]; rfl)).trans e3, rest⟩
/-- the end of Put and Drop: the result is laid in two boxes -/
theorem MapE_fin {w u : World} {b8 b4 n base : Nat} {v v8 v4 : Value} {R : List RO} (ho : u.ownsRow base 43 6 v n (rosC R)) (hn : n = R.length) (h8 : u.heap[b8]? = some (.cells #[v8] 24 (0, 0))) (h4 : u.heap[b4]? = some (.cells #[v4] 24 (0, 0)))
    (n8 : v.ownBlock ≠ some b8) (n4 : v.ownBlock ≠ some b4) (hne : b4 ≠ b8) (hb8 : w.heap.size ≤ b8) (hb4 : w.heap.size ≤ b4) (hb : Below w.heap.size w u) (hr : ∀ r ∈ R, ObIs w r ∧ ObSz r.c ∧ r.c.refs.length ≤ 100000) (hl : R.length ≤ 100000) :
    (loadVar 24 ⟨b4, 0, none⟩).run Tryz.prog ((u.setCell ⟨b8, 0, none⟩ v).setCell ⟨b4, 0, none⟩ v) = .ok (.agg #[v]) ((u.setCell ⟨b8, 0, none⟩ v).setCell ⟨b4, 0, none⟩ v) ∧ MapE w (cts R, 0) (.returned (.tuple #[.agg #[v], .int .i64 0])) ((u.setCell ⟨b8, 0, none⟩ v).setCell ⟨b4, 0, none⟩ v) := by
  have h4' : (u.setCell ⟨b8, 0, none⟩ v).heap[b4]? = some (.cells #[v4] 24 (0, 0)) := (Below.heap_setCell _ _ _ _ (by exact hne)).trans h4
  refine ⟨load_map (one_setCell h4'), ?_⟩
  have hB : Below w.heap.size w ((u.setCell ⟨b8, 0, none⟩ v).setCell ⟨b4, 0, none⟩ v) := (hb.setCell (by show w.heap.size ≤ b8; omega) _).setCell (by show w.heap.size ≤ b4; omega) _
  have hO : ((u.setCell ⟨b8, 0, none⟩ v).setCell ⟨b4, 0, none⟩ v).ownsRow base 43 6 v n (rosC R) := own_same ho (fun g hg => (Below.heap_setCell _ _ _ _ (fun e => n4 (by rw [hg]; exact congrArg some e))).trans (Below.heap_setCell _ _ _ _ (fun e => n8 (by rw [hg]; exact congrArg some e))))
  obtain ⟨A, c, e, hM, hC⟩ := Ms.of_own hO hn (fun r hr' => (hr r hr').1.below hB) (fun r hr' => (hr r hr').2) hl
  exact ⟨A, c, R, by rw [e]; rfl, hM, rfl, hC, hB⟩
theorem MapE_fin1 {w u : World} {b4 n base : Nat} {v v4 : Value} {R : List RO} (ho : u.ownsRow base 43 6 v n (rosC R)) (hn : n = R.length) (h4 : u.heap[b4]? = some (.cells #[v4] 24 (0, 0)))
    (n4 : v.ownBlock ≠ some b4) (hb4 : w.heap.size ≤ b4) (hb : Below w.heap.size w u) (hr : ∀ r ∈ R, ObIs w r ∧ ObSz r.c ∧ r.c.refs.length ≤ 100000) (hl : R.length ≤ 100000) :
    (loadVar 24 ⟨b4, 0, none⟩).run Tryz.prog (u.setCell ⟨b4, 0, none⟩ v) = .ok (.agg #[v]) (u.setCell ⟨b4, 0, none⟩ v) ∧ MapE w (cts R, 0) (.returned (.tuple #[.agg #[v], .int .i64 0])) (u.setCell ⟨b4, 0, none⟩ v) := by
  refine ⟨load_map (one_setCell h4), ?_⟩
  have hB : Below w.heap.size w (u.setCell ⟨b4, 0, none⟩ v) := hb.setCell (by show w.heap.size ≤ b4; omega) _
  have hO : (u.setCell ⟨b4, 0, none⟩ v).ownsRow base 43 6 v n (rosC R) := own_same ho (fun g hg => Below.heap_setCell _ _ _ _ (fun e => n4 (by rw [hg]; exact congrArg some e)))
  obtain ⟨A, c, e, hM, hC⟩ := Ms.of_own hO hn (fun r hr' => (hr r hr').1.below hB) (fun r hr' => (hr r hr').2) hl
  exact ⟨A, c, R, by rw [e]; rfl, hM, rfl, hC, hB⟩
theorem own_cells6 {w : World} {base n g c : Nat} {l : List RO} (h : w.ownsRow base 43 6 (.slice (some ⟨g, 0, none⟩) n c) n (rosC l)) {p : Nat} (hp : p < l.length) :
    w.cell? ⟨g, p * 6, none⟩ = some (.string (mkB l[p].c.id)) ∧ w.cell? ⟨g, p * 6 + 1, none⟩ = some (.int .i64 l[p].c.kind) ∧ w.cell? ⟨g, p * 6 + 2, none⟩ = some (.int .i64 l[p].c.x) ∧ w.cell? ⟨g, p * 6 + 3, none⟩ = some (.int .i64 l[p].c.y) ∧ w.cell? ⟨g, p * 6 + 4, none⟩ = some l[p].rv ∧ w.cell? ⟨g, p * 6 + 5, none⟩ = some l[p].tv := by
  obtain ⟨b, off, e, -, h0, h1, h2, h3, h4, h5⟩ := ros_at (own_rd h) hp
  injection e with e
  injection e with e1 e2 _
  subst e1 e2
  rw [Nat.zero_add] at h0 h1 h2 h3 h4 h5
  exact ⟨h0, h1, h2, h3, h4, h5⟩
theorem set6 {α : Type} (T D : List α) (a0 a1 a2 a3 a4 a5 b0 b1 b2 b3 b4 b5 : α) (p : Nat) (hp : T.length = p) :
    ((((((T ++ ([a0, a1, a2, a3, a4, a5] ++ D)).set p b0).set (p + 1) b1).set (p + 2) b2).set (p + 3) b3).set (p + 4) b4).set (p + 5) b5 = T ++ ([b0, b1, b2, b3, b4, b5] ++ D) := by
  have k : ∀ (f : Nat) (L : List α) (v : α), (T ++ L).set (p + f) v = T ++ L.set f v := fun f L v => by
    rw [List.set_append, if_neg (by omega)]
    congr 2; omega
  have k0 := k 0
  simp only [Nat.add_zero] at k0
  rw [k0, k, k, k, k, k]
  rfl
theorem rosC_set (l : List RO) {p : Nat} (hp : p < l.length) (x : RO) : rosC (l.set p x) = ((((((rosC l).set (p * 6) (.string (mkB x.c.id))).set (p * 6 + 1) (.int .i64 x.c.kind)).set (p * 6 + 2) (.int .i64 x.c.x)).set (p * 6 + 3) (.int .i64 x.c.y)).set (p * 6 + 4) x.rv).set (p * 6 + 5) x.tv := by
  have e : ∀ y : RO, rosC (l.take p ++ y :: l.drop (p + 1)) = rosC (l.take p) ++ (roC y ++ rosC (l.drop (p + 1))) := fun y => by
    rw [show y :: l.drop (p + 1) = [y] ++ l.drop (p + 1) from rfl, rosC_app, rosC_app]; simp [rosC]
  have e1 : l = l.take p ++ l[p] :: l.drop (p + 1) := by rw [← List.drop_eq_getElem_cons hp, List.take_append_drop]
  rw [List.set_eq_take_append_cons_drop, if_pos hp, e]
  have e2 : rosC l = rosC (l.take p) ++ (roC l[p] ++ rosC (l.drop (p + 1))) := by
    conv => lhs; rw [e1]
    rw [e]
  rw [e2]
  exact (set6 _ _ _ _ _ _ _ _ _ _ _ _ _ _ (p * 6) (by rw [rosC_len, List.length_take, Nat.min_eq_left (by omega)])).symm
theorem own_set6 {w : World} {base n g c : Nat} {l : List RO} (h : w.ownsRow base 43 6 (.slice (some ⟨g, 0, none⟩) n c) n (rosC l)) {p : Nat} (hp : p < l.length) (x : RO) :
    ((((((w.setCell ⟨g, p * 6, none⟩ (.string (mkB x.c.id))).setCell ⟨g, p * 6 + 1, none⟩ (.int .i64 x.c.kind)).setCell ⟨g, p * 6 + 2, none⟩ (.int .i64 x.c.x)).setCell ⟨g, p * 6 + 3, none⟩ (.int .i64 x.c.y)).setCell ⟨g, p * 6 + 4, none⟩ x.rv).setCell ⟨g, p * 6 + 5, none⟩ x.tv).ownsRow base 43 6 (.slice (some ⟨g, 0, none⟩) n c) n (rosC (l.set p x)) := by
  rw [rosC_set l hp]
  exact (((((h.stored _ _).1.stored _ _).1.stored _ _).1.stored _ _).1.stored _ _).1.stored _ _ |>.1
set_option maxHeartbeats 4000000 in
set_option maxRecDepth 100000 in
theorem put_any (A : Option Addr) (n c : Nat) (l : List RO) (x : RO) (w : World) (hn : n = l.length) (hl : n ≤ 99999) (h : Ms w A l) (hx : ObIs w x) (hs : ObSz x.c ∧ x.c.refs.length ≤ 100000) :
    Calls Tryz.prog 25 #[.agg #[.slice A n c], roA x] w (MapE w (putM (cts l) x.c)) := by
  obtain ⟨A1, q1, v1, -⟩ := hx.rs
  obtain ⟨A2, q2, v2, -⟩ := hx.ts
  have PM : Hid (putM (cts l) x.c = if At.validM (cts l) && At.validO x.c then (At.putF (cts l) x.c, 0) else ([], 1)) := Lib.hid rfl
  have ERR : Hid (∀ w1, Below w.heap.size w w1 → putM (cts l) x.c = ([], 1) → MapE w (putM (cts l) x.c) (.returned (.tuple #[.agg #[.slice none 0 0], .int .i64 1])) w1) := Lib.hid (fun w1 hb e => by
    rw [e]; exact ⟨none, 0, [], rfl, Ms.nil _, rfl, Nat.le_refl _, hb⟩)
  obtain ⟨X, hX⟩ : ∃ X, X = (((w.alloc (.cells #[.slice A n c] 24)).alloc (.cells #[.string (mkB x.c.id), .int .i64 x.c.kind, .int .i64 x.c.x, .int .i64 x.c.y, .slice A1 x.c.refs.length q1, .slice A2 x.c.tags.length q2] 43)).alloc (.cells #[.slice none 0 0] 24)).alloc (.cells #[.slice A n c] 24) := ⟨_, rfl⟩
  have BX : Below w.heap.size w X := by rw [hX]; exact ((((Below.refl _ _).alloc (Nat.le_refl _) _).alloc (by first | (simp; done) | (simp; omega)) _).alloc (by first | (simp; done) | (simp; omega)) _).alloc (by first | (simp; done) | (simp; omega)) _
  have X0 : X.heap[w.heap.size]? = some (.cells #[.slice A n c] 24 (0, 0)) := by rw [hX]; exact (alloc_old _ _ (by first | (simp; done) | (simp; omega))).trans ((alloc_old _ _ (by first | (simp; done) | (simp; omega))).trans ((alloc_old _ _ (by first | (simp; done) | (simp; omega))).trans (heap_alloc_new w _)))
  have X1 : X.heap[w.heap.size + 1]? = some (.cells (roC x).toArray 43 (0, 0)) := by rw [hX]; unfold roC; rw [v1, v2]; exact (alloc_old _ _ (by first | (simp; done) | (simp; omega))).trans ((alloc_old _ _ (by first | (simp; done) | (simp; omega))).trans (alloc_new' _ _ _ (by first | (simp; done) | (simp; omega))))
  have X2 : X.heap[w.heap.size + 1 + 1]? = some (.cells #[.slice none 0 0] 24 (0, 0)) := by rw [hX]; exact (alloc_old _ _ (by first | (simp; done) | (simp; omega))).trans (alloc_new' _ _ _ (by first | (simp; done) | (simp; omega)))
  have X3 : X.heap[w.heap.size + 1 + 1 + 1]? = some (.cells #[.slice A n c] 24 (0, 0)) := by rw [hX]; exact alloc_new' _ _ _ (by first | (simp; done) | (simp; omega))
  have XZ : X.heap.size = w.heap.size + 4 := by rw [hX]; simp
  have CF : Hid (∀ u, Below X.heap.size X u → u.cell? ⟨w.heap.size + 1, 0, none⟩ = some (.string (mkB x.c.id)) ∧ u.cell? ⟨w.heap.size + 1, 1, none⟩ = some (.int .i64 x.c.kind) ∧ u.cell? ⟨w.heap.size + 1, 2, none⟩ = some (.int .i64 x.c.x) ∧ u.cell? ⟨w.heap.size + 1, 3, none⟩ = some (.int .i64 x.c.y) ∧ u.cell? ⟨w.heap.size + 1, 4, none⟩ = some (.slice A1 x.c.refs.length q1) ∧ u.cell? ⟨w.heap.size + 1, 5, none⟩ = some (.slice A2 x.c.tags.length q2) ∧ u.cell? ⟨w.heap.size, 0, none⟩ = some (.slice A n c) ∧ u.cell? ⟨w.heap.size + 1 + 1, 0, none⟩ = some (.slice none 0 0) ∧ u.frozen? ⟨w.heap.size + 1 + 1, 0, none⟩ = false) := Lib.hid (fun u hu => by
    have h1 := (hu.block (w.heap.size + 1) (by omega)).trans X1
    have h0 := (hu.block w.heap.size (by omega)).trans X0
    have h2 := (hu.block (w.heap.size + 1 + 1) (by omega)).trans X2
    unfold roC at h1
    rw [v1, v2] at h1
    exact ⟨cell_of_row u _ 0 _ _ _ h1, cell_of_row u _ 1 _ _ _ h1, cell_of_row u _ 2 _ _ _ h1, cell_of_row u _ 3 _ _ _ h1, cell_of_row u _ 4 _ _ _ h1, cell_of_row u _ 5 _ _ _ h1, cell_of_row u _ 0 _ _ _ h0, cell_of_row u _ 0 _ _ _ h2, free_blk h2 0⟩)
  have ZF : Hid (∀ u, Below X.heap.size X u → (loadVar 24 ⟨w.heap.size + 1 + 1, 0, none⟩).run Tryz.prog (u.setCell ⟨w.heap.size + 1 + 1, 0, none⟩ (.slice none 0 0)) = .ok (.agg #[.slice none 0 0]) (u.setCell ⟨w.heap.size + 1 + 1, 0, none⟩ (.slice none 0 0)) ∧ Hid (Below w.heap.size w (u.setCell ⟨w.heap.size + 1 + 1, 0, none⟩ (.slice none 0 0)))) := Lib.hid (fun u hu => by
    have h2 := (hu.block (w.heap.size + 1 + 1) (by omega)).trans X2
    exact ⟨load_map (one_setCell h2), Lib.hid ((BX.trans (Below.mono hu BX.size)).setCell (by show w.heap.size ≤ w.heap.size + 1 + 1; omega) _)⟩)
  have R4 : Hid (∀ u, Below X.heap.size X u → u.heap[w.heap.size + 1 + 1]? = some (.cells #[.slice none 0 0] 24 (0, 0))) := Lib.hid (fun u hu => (hu.block (w.heap.size + 1 + 1) (by omega)).trans X2)
  have VD := Lib.hid (valids_any (some ⟨w.heap.size + 1 + 1 + 1, 0, none⟩) 1 1 [⟨A, c, l⟩] X rfl (by omega) (Rd.of_row X3 (by rw [hn]; exact List.prefix_refl _)) (fun m hm => by rw [List.mem_singleton.1 hm]; exact h.below BX))
  have AV : allV [⟨A, c, l⟩] = At.validM (cts l) := by simp [allV]
  rw [AV] at VD
  have OV : Hid (∀ u, Below w.heap.size w u → Calls Tryz.prog 43 #[roA x] u fun e w' => e = .returned (.bool (At.validO x.c)) ∧ Below u.heap.size u w') := Lib.hid (fun u hu => valid_any x u (hx.below hu) hs.1 hs.2)
  have OX := Lib.hid (show Below X.heap.size X X from Below.refl _ _)
  have H0 := Lib.hid X0
  have H1 := Lib.hid X1
  have H2 := Lib.hid X2
  have HB := Lib.hid BX
  have HM := Lib.hid h
  have HO := Lib.hid hx
  have HS := Lib.hid hs
  have HN := Lib.hid hn
  unfold roA at OV ⊢
  rw [v1, v2] at OV ⊢
  have k0 := cell_of_row X w.heap.size 0 _ _ _ X0
  simp at k0
  clear X0 X1 X2 X3 BX h hx hs hn AV
  go_enter Tryz.func25, Tryz.ntmps25
  go_wp2_with fail
  try rw [← hX]
  clear hX
  refine VD.out.mono ?_
  rintro e u1 ⟨rfl, b1⟩
  have B1 := Lib.hid (show Below X.heap.size X u1 from b1)
  obtain ⟨e0, e1, e2, e3, e4, e5, k0, m0, fz⟩ := CF.out u1 B1.out
  clear b1 VD
  cases hV : At.validM (cts l)
  · have PE : Hid (putM (cts l) x.c = ([], 1)) := Lib.hid (by rw [PM.out, hV]; rfl)
    obtain ⟨LZ, BZ⟩ := ZF.out u1 B1.out
    go_wp2_with fail
    refine bodyPost_ret (results_cell2 (i := 4) (j := 5) rfl rfl LZ rfl) rfl ?_
    exact ERR.out _ BZ.out PE.out
  · clear k0 m0 fz
    go_wp2_with fail
    refine (OV.out u1 (HB.out.trans (Below.mono B1.out HB.out.size))).mono ?_
    rintro e u2 ⟨rfl, b2⟩
    have B2 := Lib.hid (B1.out.trans (b2.mono B1.out.size))
    clear b2 B1 e0 e1 e2 e3 e4 e5
    obtain ⟨e0, e1, e2, e3, e4, e5, k0, m0, fz⟩ := CF.out u2 B2.out
    cases hO : At.validO x.c
    · have PE : Hid (putM (cts l) x.c = ([], 1)) := Lib.hid (by rw [PM.out, hV, hO]; rfl)
      obtain ⟨LZ, BZ⟩ := ZF.out u2 B2.out
      go_wp2_with fail
      refine bodyPost_ret (results_cell2 (i := 4) (j := 5) rfl rfl LZ rfl) rfl ?_
      exact ERR.out _ BZ.out PE.out
    · have PE : Hid (putM (cts l) x.c = (At.putF (cts l) x.c, 0)) := Lib.hid (by rw [PM.out, hV, hO]; rfl)
      have SR : Hid (At.Srt (cts l)) := Lib.hid (At.validM_iff.1 hV).1
      have W2 := Lib.hid (HB.out.trans (Below.mono B2.out HB.out.size))
      have AD := Lib.hid (at_any A n c l x.c.id u2 HN.out SR.out (HM.out.below W2.out))
      clear m0 fz e1 e2 e3 e4 e5 PM ERR ZF
      go_wp2_with fail
      refine AD.out.mono ?_
      rintro e u3 ⟨rfl, b3⟩
      have B3 := Lib.hid (B2.out.trans (b3.mono B2.out.size))
      have W3 := Lib.hid (HB.out.trans (Below.mono B3.out HB.out.size))
      clear b3 AD B2 W2 k0 e0
      obtain ⟨e0, e1, e2, e3, e4, e5, k0, m0, fz⟩ := CF.out u3 B3.out
      have CD := Lib.hid (clone_any A n c l u3 HN.out (HM.out.below W3.out))
      clear e0 e1 e2 e3 e4 e5 m0 fz
      go_wp2_with fail
      refine CD.out.mono ?_
      rintro e u4 ⟨v4, rfl, o4, b4⟩
      have B4 := Lib.hid (B3.out.trans (b4.mono B3.out.size))
      have O4 := Lib.hid o4
      have Z34 := b4.size
      have Z3 := B3.out.size
      clear b4 CD
      obtain ⟨e0, e1, e2, e3, e4, e5, k0', m0, fz⟩ := CF.out u4 B4.out
      have ad4 : w.heap.size + 1 + 1 < u4.heap.size := by omega
      have ad3 : w.heap.size + 1 < u4.heap.size := by omega
      have ad2 : w.heap.size < u4.heap.size := by omega
      cases hH : At.has (cts l) x.c.id
      · have LN : At.look (cts l) x.c.id = none := by unfold At.has at hH; cases k : At.look (cts l) x.c.id with | none => rfl | some z => rw [k] at hH; cases hH
        have PF : Hid (At.putF (cts l) x.c = cts (l.take (At.pos (cts l) x.c.id) ++ x :: l.drop (At.pos (cts l) x.c.id))) := Lib.hid (by rw [At.put_pos_new SR.out LN, cts_ins])
        have pl : At.pos (cts l) x.c.id ≤ n := by have := At.pos_le (cts l) x.c.id; rw [cts_len, ← HN.out] at this; exact this
        obtain ⟨A4, c4, hv4, -⟩ := own_sl O4.out
        obtain ⟨Y, hY⟩ : ∃ Y, Y = (u4.alloc (.cells #[.slice A4 l.length c4] 24)).alloc (.cells #[.string (mkB x.c.id), .int .i64 x.c.kind, .int .i64 x.c.x, .int .i64 x.c.y, .slice A1 x.c.refs.length q1, .slice A2 x.c.tags.length q2] 43) := ⟨_, rfl⟩
        have YB : Below u4.heap.size u4 Y := by rw [hY]; exact ((Below.refl _ _).alloc (Nat.le_refl _) _).alloc (by simp) _
        have Y0 : Y.heap[u4.heap.size]? = some (.cells #[.slice A4 l.length c4] 24 (0, 0)) := by rw [hY]; exact (alloc_old _ _ (by simp)).trans (heap_alloc_new u4 _)
        have Y1 : Y.heap[u4.heap.size + 1]? = some (.cells (roC x).toArray 43 (0, 0)) := by rw [hY]; unfold roC; rw [v1, v2]; exact alloc_new' _ _ _ (by simp)
        have YZ : Y.heap.size = u4.heap.size + 2 := by rw [hY]; simp
        have OWY : Y.ownsRow u3.heap.size 43 6 v4 n (rosC l) := by rw [hY, HN.out]; exact (O4.out.alloc _).alloc _
        have WY := Lib.hid (HB.out.trans (Below.mono (B4.out.trans (YB.mono (Nat.le_trans B4.out.size (Nat.le_refl _)))) HB.out.size))
        have OBL := fun k (hk : v4.ownBlock = some k) => O4.out.lt k hk
        have IN := Lib.hid (insert_any u3.heap.size (u4.heap.size + 1) (At.pos (cts l) x.c.id) n v4 l x Y HN.out pl (by omega) (by omega) OWY (fun r hr => (HM.out.ob r hr).below WY.out) (HO.out.below WY.out) Y1 (fun e => by have := (OBL _ e).2; omega))
        have Y0H := Lib.hid Y0
        have OBH := Lib.hid OBL
        have YBH := Lib.hid YB
        clear Y0 Y1 OWY OBL YB pl
        generalize At.pos (cts l) x.c.id = p at *
        rw [hv4] at IN OBH ⊢
        clear hv4 O4
        have e1000 : ((n : Int) == 1000000) = false := by simp; omega
        go_wp2_with fail
        rw [← hY]
        refine IN.out.mono ?_
        clear hY
        rintro e u5 ⟨v5, rfl, o5, b5, s5⟩
        have ob4 : Value.ownBlock (.slice A4 l.length c4) ≠ some u4.heap.size := fun e => by have := (OBH.out _ e).2; omega
        have r8 := (s5 u4.heap.size (by omega) ob4).trans Y0H.out
        have r4 := (b5.block (w.heap.size + 1 + 1) (by omega)).trans ((YBH.out.block _ (by omega)).trans (R4.out u4 B4.out))
        have n8 := own_ne_map o5 r8
        have n4 := own_ne_map o5 r4
        have FIN := MapE_fin (w := w) (u := u5) (b8 := u4.heap.size) (b4 := w.heap.size + 1 + 1) (v := v5) (R := l.take p ++ x :: l.drop p) (n := l.length + 1) (base := u3.heap.size) o5 (by rw [List.length_append, List.length_cons, List.length_take, List.length_drop]; omega) r8 r4 n8 n4 (by omega) (by omega) (by omega) (WY.out.trans (Below.mono b5 (by omega))) (fun r hr => by
          rcases List.mem_append.1 hr with h1 | h1
          · exact ⟨HM.out.ob r (List.mem_of_mem_take h1), HM.out.sz r (List.mem_of_mem_take h1)⟩
          · rcases List.mem_cons.1 h1 with h2 | h2
            · rw [h2]; exact ⟨HO.out, HS.out⟩
            · exact ⟨HM.out.ob r (List.mem_of_mem_drop h2), HM.out.sz r (List.mem_of_mem_drop h2)⟩) (by rw [List.length_append, List.length_cons, List.length_take, List.length_drop]; have := HN.out; omega)
        rw [← PF.out, ← PE.out] at FIN
        obtain ⟨A5, c5, hv5, -⟩ := own_sl o5
        subst hv5
        have FINH := Lib.hid FIN
        have g8 := cell_of_row u5 u4.heap.size 0 _ _ _ r8
        have g4 := cell_of_row u5 (w.heap.size + 1 + 1) 0 _ _ _ r4
        have z8 := free_blk r8 0
        have z4 := free_blk r4 0
        simp at g8 g4
        have zne : ¬ w.heap.size + 1 + 1 = u4.heap.size := by omega
        have zne2 : ¬ u4.heap.size = w.heap.size + 1 + 1 := by omega
        clear b5 s5 r8 r4 n8 n4 o5 FIN IN
        go_wp2_with fail
        refine bodyPost_ret (results_cell2 (i := 4) (j := 5) rfl rfl FINH.out.1 rfl) rfl ?_
        exact FINH.out.2
      · obtain ⟨z, LN⟩ : ∃ z, At.look (cts l) x.c.id = some z := by unfold At.has at hH; cases k : At.look (cts l) x.c.id with | none => rw [k] at hH; cases hH | some z => exact ⟨z, rfl⟩
        obtain ⟨hp, -⟩ := At.get_pos SR.out LN
        rw [cts_len] at hp
        have PF : Hid (At.putF (cts l) x.c = cts (l.set (At.pos (cts l) x.c.id) x)) := Lib.hid (by rw [At.put_pos_has SR.out LN, cts_set])
        generalize At.pos (cts l) x.c.id = p at *
        have hpn : p < n := by rw [HN.out]; exact hp
        obtain ⟨g, cap, hv4, hg3, hg4⟩ := (show ∃ g cap, v4 = .slice (some ⟨g, 0, none⟩) l.length cap ∧ u3.heap.size ≤ g ∧ g < u4.heap.size by
          rcases O4.out.2 with ⟨-, h0⟩ | ⟨g, cap, cur, e, hg, hh, -⟩
          · omega
          · exact ⟨g, cap, e, hg, (O4.out.lt g (by rw [e]; rfl)).2⟩)
        subst hv4
        obtain ⟨Y, hY⟩ : ∃ Y, Y = u4.alloc (.cells #[.slice (some ⟨g, 0, none⟩) l.length cap] 24) := ⟨_, rfl⟩
        have YB : Below u4.heap.size u4 Y := by rw [hY]; exact (Below.refl _ _).alloc (Nat.le_refl _) _
        have Y0 : Y.heap[u4.heap.size]? = some (.cells #[.slice (some ⟨g, 0, none⟩) l.length cap] 24 (0, 0)) := by rw [hY]; exact heap_alloc_new u4 _
        have OWY : Y.ownsRow u3.heap.size 43 6 (.slice (some ⟨g, 0, none⟩) l.length cap) l.length (rosC l) := by rw [hY]; exact O4.out.alloc _
        have YZ : Y.heap.size = u4.heap.size + 1 := by rw [hY]; simp
        have WY := Lib.hid (HB.out.trans (Below.mono (B4.out.trans (YB.mono (Nat.le_trans B4.out.size (Nat.le_refl _)))) HB.out.size))
        obtain ⟨i0, i1, i2, i3, i4, i5⟩ := own_cells6 OWY hp
        have f0 := OWY.frozenAt (p * 6)
        have f1 := OWY.frozenAt (p * 6 + 1)
        have f2 := OWY.frozenAt (p * 6 + 2)
        have f3 := OWY.frozenAt (p * 6 + 3)
        have f4 := OWY.frozenAt (p * 6 + 4)
        have f5 := OWY.frozenAt (p * 6 + 5)
        have j0 := cell_of_row Y u4.heap.size 0 _ _ _ Y0
        have KK := CF.out Y (B4.out.trans (YB.mono B4.out.size))
        obtain ⟨e0', e1', e2', e3', e4', e5', k0'', m0', fz'⟩ := KK
        simp at j0
        have S6 := own_set6 OWY hp x
        rw [v1, v2] at S6
        have hne : ∀ b, b ≠ g → ((((((Y.setCell ⟨g, p * 6, none⟩ (.string (mkB x.c.id))).setCell ⟨g, p * 6 + 1, none⟩ (.int .i64 x.c.kind)).setCell ⟨g, p * 6 + 2, none⟩ (.int .i64 x.c.x)).setCell ⟨g, p * 6 + 3, none⟩ (.int .i64 x.c.y)).setCell ⟨g, p * 6 + 4, none⟩ (.slice A1 x.c.refs.length q1)).setCell ⟨g, p * 6 + 5, none⟩ (.slice A2 x.c.tags.length q2)).heap[b]? = Y.heap[b]? := fun b hb => by
          rw [Below.heap_setCell _ _ _ _ hb, Below.heap_setCell _ _ _ _ hb, Below.heap_setCell _ _ _ _ hb, Below.heap_setCell _ _ _ _ hb, Below.heap_setCell _ _ _ _ hb, Below.heap_setCell _ _ _ _ hb]
        have r4 := (hne (w.heap.size + 1 + 1) (by omega)).trans ((YB.block _ (by omega)).trans (R4.out u4 B4.out))
        have r8 := (hne u4.heap.size (by omega)).trans Y0
        have hBU : Below w.heap.size w ((((((Y.setCell ⟨g, p * 6, none⟩ (.string (mkB x.c.id))).setCell ⟨g, p * 6 + 1, none⟩ (.int .i64 x.c.kind)).setCell ⟨g, p * 6 + 2, none⟩ (.int .i64 x.c.x)).setCell ⟨g, p * 6 + 3, none⟩ (.int .i64 x.c.y)).setCell ⟨g, p * 6 + 4, none⟩ (.slice A1 x.c.refs.length q1)).setCell ⟨g, p * 6 + 5, none⟩ (.slice A2 x.c.tags.length q2)) := (((((WY.out.setCell (by show w.heap.size ≤ g; omega) _).setCell (by show w.heap.size ≤ g; omega) _).setCell (by show w.heap.size ≤ g; omega) _).setCell (by show w.heap.size ≤ g; omega) _).setCell (by show w.heap.size ≤ g; omega) _).setCell (by show w.heap.size ≤ g; omega) _
        obtain ⟨U, hU⟩ : ∃ U, U = (((((Y.setCell ⟨g, p * 6, none⟩ (.string (mkB x.c.id))).setCell ⟨g, p * 6 + 1, none⟩ (.int .i64 x.c.kind)).setCell ⟨g, p * 6 + 2, none⟩ (.int .i64 x.c.x)).setCell ⟨g, p * 6 + 3, none⟩ (.int .i64 x.c.y)).setCell ⟨g, p * 6 + 4, none⟩ (.slice A1 x.c.refs.length q1)).setCell ⟨g, p * 6 + 5, none⟩ (.slice A2 x.c.tags.length q2) := ⟨_, rfl⟩
        rw [← hU] at S6 r4 r8 hBU
        have FIN := MapE_fin1 (w := w) (u := U) (b4 := w.heap.size + 1 + 1) (v := .slice (some ⟨g, 0, none⟩) l.length cap) (R := l.set p x) (n := l.length) (base := u3.heap.size) S6 (by rw [List.length_set]) r4 (own_ne_map S6 r4) (by omega) hBU (fun r hr => by
          rcases List.mem_or_eq_of_mem_set hr with h1 | h1
          · exact ⟨HM.out.ob r h1, HM.out.sz r h1⟩
          · rw [h1]; exact ⟨HO.out, HS.out⟩) (by rw [List.length_set]; have := HN.out; omega)
        rw [← PF.out, ← PE.out] at FIN
        have FINH := Lib.hid FIN
        have g8 := cell_of_row U u4.heap.size 0 _ _ _ r8
        have g4 := cell_of_row U (w.heap.size + 1 + 1) 0 _ _ _ r4
        have z4 := free_blk r4 0
        simp at g8 g4
        have dp : (p : Int) < (l.length : Int) := by omega
        have dp0 : (0 : Int) ≤ (p : Int) := by omega
        clear r4 r8 hBU hne S6 FIN OWY Y0 YB
        go_upto_region 7 with fail
        rw [← hY]
        clear hY
        go_upto_region 10 with fail
        rw [← hU]
        clear hU
        go_wp2_with fail
        refine bodyPost_ret (results_cell2 (i := 4) (j := 5) rfl rfl FINH.out.1 rfl) rfl ?_
        exact FINH.out.2
end Go.Proofs.YtlejeelmlclnkaaGreatDoor
