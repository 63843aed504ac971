/- WALK: atlas.Diff. -/
import Derived.Test.YtlejeelmlclnkaaGreatDoorCI
set_option linter.unusedSimpArgs false
set_option linter.unusedVariables false
namespace Go.Proofs.YtlejeelmlclnkaaGreatDoor
open Go.RowKit Go.Shelf
attribute [local go_sem] Oper.semAt_some

/-- differences come back -/
def DsE (w : World) (r : List At.Dl) (e : Ending) (w' : World) : Prop :=
  ∃ (A : Option Addr) (c : Nat) (R : List DV), e = .returned (.slice A R.length c) ∧ Rd w' A (dvsC R) ∧ (∀ d ∈ R, DvIs w d ∧ DvSz d) ∧ R.map DV.d = r ∧ R.length ≤ c ∧ Below w.heap.size w w'
theorem info_dl : (Tryz.prog.info? 45).map (fun i => (i.zero, i.size, i.bytes)) = some (some (.agg #[.string .empty, .bool false, .bool false, .string .empty, .int .i64 0, .int .i64 0, .int .i64 0, .slice none 0 0, .slice none 0 0, .string .empty, .int .i64 0, .int .i64 0, .int .i64 0, .slice none 0 0, .slice none 0 0]), 15, 200) := by kernel_rfl
def difV {w : World} (pre : List (GV w)) : List DV := (pre.map (·.1)).filter fun d => At.differs d.d
theorem difV_snoc {w : World} (pre : List (GV w)) (x : GV w) : difV (pre ++ [x]) = difV pre ++ if At.differs x.1.d then [x.1] else [] := by
  unfold difV
  rw [List.map_append, List.filter_append]
  congr 1
  cases h : At.differs x.1.d <;> simp [h]
theorem difV_len {w : World} (pre : List (GV w)) : (difV pre).length ≤ pre.length := by
  unfold difV
  exact Nat.le_trans (List.length_filter_le _ _) (by simp)
theorem difV_d {w : World} {ys : List (GV w)} {N : Nat} {a b : List RO} (h : ys.map (·.1) = pairsV N a b) : (difV ys).map DV.d = (At.pairsF N (cts a) (cts b)).filter At.differs := by
  unfold difV
  rw [h, ← pairsV_d, List.filter_map]; rfl
/-- between two rounds of Diff -/
def DfI (w : World) (B bo : Nat) (pre : List (GV w)) (W : World) : Prop :=
  (∃ v, Boxed W bo 28 v ∧ W.ownsRow (bo + 1) 45 15 v (difV pre).length (dvsC (difV pre))) ∧ Below B w W ∧ bo + 3 ≤ W.heap.size
theorem dfI_own (w : World) (B bo B' : Nat) (hB : B ≤ w.heap.size) (hB' : B ≤ B') : OwnFrom B' (DfI w B bo) := by
  rintro s X Y row ⟨⟨v, hv, hr⟩, hb, hz⟩ hg hrow
  exact ⟨⟨v, blk_keptR hv hg (fun r e => (hrow r e).2), own_keptR hr hg (fun r e => (hrow r e).2)⟩, hb.grown hg (by have := hb.size; omega) (fun k e => Nat.le_trans hB' (hrow k e).1), Nat.le_trans hz hg.size⟩
theorem app_doneK {W w2 w3 : World} {n₀ Bo k size : Nat} {t e : TypeId} {cs : Array Value} {v : Value} {xs : List Value} {tmp : Obj} (hB : W.heap[Bo]? = some (.cells cs t (0, 0))) (hte : e ≠ t) (hown : W.ownsRow n₀ e size v k xs) (hn : n₀ ≤ W.heap.size) (hb2 : Below W.heap.size W w2) (hg : (w2.alloc tmp).grownBy w3 v.ownBlock) :
    w3.heap[Bo]? = some (.cells cs t (0, 0)) ∧ KeepsOthers W w3 ∧ Below n₀ W w3 := by
  have hown2 := (own_below hown hb2 (Nat.le_refl _)).alloc tmp
  have hB2 : (w2.alloc tmp).heap[Bo]? = some (.cells cs t (0, 0)) := (alloc_old _ _ (Nat.lt_of_lt_of_le (lt_of_block hB) hb2.size)).trans ((hb2.block Bo (lt_of_block hB)).trans hB)
  refine ⟨blk_keep hg hown2 hB2 hte, ((ko_below hb2).trans (KeepsOthers.alloc w2 tmp)).trans (KeepsOthers.of_grownBy hg fun j o ej hj => ?_), ?_⟩
  · rcases hown2.2 with ⟨rfl, _⟩ | ⟨g, cap, cur, rfl, _, hgb, _⟩
    · simp [Value.ownBlock] at ej
    · obtain rfl : g = j := by simpa [Value.ownBlock] using ej
      rw [hgb] at hj; cases hj; rfl
  · have h1 : Below n₀ W (w2.alloc tmp) := (hb2.mono hn).alloc (Nat.le_trans hn hb2.size) tmp
    exact h1.grown hg (by simp; exact Nat.le_trans hn (Nat.le_trans hb2.size (Nat.le_succ _))) (fun j ej => (hown2.lt j ej).1)
set_option maxRecDepth 100000 in
set_option maxHeartbeats 4000000 in
theorem diff_any (A B : Option Addr) (n c m d : Nat) (a b : List RO) (w : World) (hn : n = a.length) (hm : m = b.length) (hl : n ≤ 20000) (hl2 : m ≤ 20000) (hc : n ≤ c) (hd : m ≤ d) (h : Ms w A a) (h2 : Ms w B b) :
    Calls Tryz.prog 13 #[.agg #[.slice A n c], .agg #[.slice B m d]] w (DsE w (At.diffF (cts a) (cts b))) := by
  have PM : Hid (At.diffF (cts a) (cts b) = if At.validM (cts a) && At.validM (cts b) then At.diffG (cts a) (cts b) else []) := Lib.hid rfl
  obtain ⟨X, hX⟩ : ∃ X, X = ((w.alloc (.cells #[.slice A n c] 24)).alloc (.cells #[.slice B m d] 24)).alloc (.cells #[.slice A n c, .slice B m d] 24) := ⟨_, rfl⟩
  have BX : Below w.heap.size w X := by rw [hX]; exact (((Below.refl _ _).alloc (Nat.le_refl _) _).alloc (by first | (simp; done) | (simp; omega)) _).alloc (by first | (simp; done) | (simp; omega)) _
  have X0 : X.heap[w.heap.size]? = some (.cells #[.slice A n c] 24 (0, 0)) := by rw [hX]; exact (alloc_old _ _ (by first | (simp; done) | (simp; omega))).trans ((alloc_old _ _ (by first | (simp; done) | (simp; omega))).trans (heap_alloc_new w _))
  have X1 : X.heap[w.heap.size + 1]? = some (.cells #[.slice B m d] 24 (0, 0)) := by rw [hX]; exact (alloc_old _ _ (by first | (simp; done) | (simp; omega))).trans (alloc_new' _ _ _ (by first | (simp; done) | (simp; omega)))
  have X2 : X.heap[w.heap.size + 2]? = some (.cells #[.slice A n c, .slice B m d] 24 (0, 0)) := by rw [hX]; exact alloc_new' _ _ _ (by first | (simp; done) | (simp; omega))
  have XZ : X.heap.size = w.heap.size + 3 := by rw [hX]; simp
  have VD := Lib.hid (valids_any (some ⟨w.heap.size + 2, 0, none⟩) 2 2 [⟨A, c, a⟩, ⟨B, d, b⟩] X rfl (by omega) (Rd.of_row X2 (by rw [hn, hm]; exact List.prefix_refl _)) (fun m hm => by
    rcases List.mem_cons.1 hm with rfl | hm
    · exact h.below BX
    · rw [List.mem_singleton.1 hm]; exact h2.below BX))
  have AV : allV [⟨A, c, a⟩, ⟨B, d, b⟩] = (At.validM (cts a) && At.validM (cts b)) := by simp [allV]
  rw [AV] at VD
  have HB := Lib.hid BX
  have H0 := Lib.hid X0
  have H1 := Lib.hid X1
  have HM := Lib.hid h
  have HM2 := Lib.hid h2
  have HN := Lib.hid hn
  have HN2 := Lib.hid hm
  clear X0 X1 X2 BX h h2 hn hm AV
  (refine (callsIn_wide (n := 5)).1 ?_; refine callsIn_of_wp_marks Tryz.func13 rfl trivial ?_ rfl; simp only [Tryz.ntmps13, List.size_toArray, List.length_cons, List.length_nil, Nat.reduceAdd, Nat.reduceSub, Array.replicate_succ, Array.replicate_zero, List.push_toArray, List.append_toArray, List.nil_append, List.cons_append]; refine wpIn_wide.2 ?_)
  go_wp2_with fail
  try rw [← hX]
  clear hX
  refine VD.out.mono ?_
  rintro e u1 ⟨rfl, b1⟩
  have B1 := Lib.hid (HB.out.trans (Below.mono b1 HB.out.size))
  have k0 := cell_of_row u1 w.heap.size 0 _ _ _ ((b1.block _ (by omega)).trans H0.out)
  have k1 := cell_of_row u1 (w.heap.size + 1) 0 _ _ _ ((b1.block _ (by omega)).trans H1.out)
  simp at k0 k1
  have z1 : w.heap.size + 3 ≤ u1.heap.size := by have := b1.size; omega
  clear b1 VD
  cases hV : (At.validM (cts a) && At.validM (cts b))
  · have PE : Hid (At.diffF (cts a) (cts b) = []) := Lib.hid (by rw [PM.out, hV]; rfl)
    go_wp2_with fail
    refine ⟨_, results_tmp rfl _ _ _, ?_⟩
    exact ⟨none, 0, [], rfl, Rd.nil_ _ _, fun d hd => (by cases hd), by rw [PE.out]; rfl, Nat.le_refl _, B1.out⟩
  · have PE : Hid (At.diffF (cts a) (cts b) = At.diffG (cts a) (cts b)) := Lib.hid (by rw [PM.out, hV]; rfl)
    clear PM
    obtain ⟨bo, hbo⟩ : ∃ bo, bo = u1.heap.size := ⟨_, rfl⟩
    obtain ⟨V, hV2⟩ : ∃ V, V = u1.alloc (.cells #[.slice none 0 0] 28) := ⟨_, rfl⟩
    have VB : Below w.heap.size w V := by rw [hV2]; exact B1.out.alloc B1.out.size _
    have V0 : V.cell? ⟨w.heap.size, 0, none⟩ = some (.slice A n c) := by rw [hV2]; exact (((Below.refl u1.heap.size u1).alloc (Nat.le_refl _) _).cell (p := ⟨w.heap.size, 0, none⟩) (by show w.heap.size < u1.heap.size; omega)).trans k0
    have V1 : V.cell? ⟨w.heap.size + 1, 0, none⟩ = some (.slice B m d) := by rw [hV2]; exact (((Below.refl u1.heap.size u1).alloc (Nat.le_refl _) _).cell (p := ⟨w.heap.size + 1, 0, none⟩) (by show w.heap.size + 1 < u1.heap.size; omega)).trans k1
    have V2 : V.heap[bo]? = some (.cells #[.slice none 0 0] 28 (0, 0)) := by rw [hV2, hbo]; exact heap_alloc_new u1 _
    have VZ : V.heap.size = bo + 1 := by rw [hV2, hbo]; simp
    go_upto_region 4 with fail
    rw [← hV2, ← hbo]
    have bw : w.heap.size + 3 ≤ bo := by omega
    clear hV2 hbo B1
    obtain ⟨W0, hW0⟩ : ∃ W0, W0 = (V.alloc (.cells #[.slice A n c] 24)).alloc (.cells #[.slice B m d] 24) := ⟨_, rfl⟩
    have WA : W0.cell? ⟨bo + 1, 0, none⟩ = some (.slice A n c) := by
      rw [hW0]
      exact cell_of_row _ (bo + 1) 0 _ _ _ ((alloc_old _ _ (by simp; omega)).trans (alloc_new' _ _ _ VZ.symm))
    have WB : W0.cell? ⟨bo + 2, 0, none⟩ = some (.slice B m d) := by
      rw [hW0]
      exact cell_of_row _ (bo + 2) 0 _ _ _ (alloc_new' _ _ _ (by simp; omega))
    have WO : Boxed W0 bo 28 (.slice none 0 0) := by
      rw [hW0]
      exact ((show Boxed V bo 28 (.slice none 0 0) from V2).alloc _).alloc _
    have WBl : Below w.heap.size w W0 := by rw [hW0]; exact (VB.alloc VB.size _).alloc (by simp; have := VB.size; omega) _
    have WZ : W0.heap.size = bo + 3 := by rw [hW0]; simp [VZ]
    have WA' := Lib.hid WA
    have WB' := Lib.hid WB
    have WO' := Lib.hid WO
    have WBl' := Lib.hid WBl
    have vz : V.heap.size = bo + 1 := VZ
    clear WA WB WO WBl V2 VB
    go_wp2_with fail
    refine (pairs_any A B n c m d V).mono ?_
    rintro e w1 ⟨rfl, hw1⟩
    have hw2 : w1 = W0 := by rw [hW0, ← hw1]
    subst hw2
    clear hw1 hW0
    rw [vz]
    go_wp2_with fail
    refine (wpIn_wide (n := 4)).1 ?_
    refine wpIn_rangeFunc_ownH (F := Fence.wide) rfl (by decide) (gf := 88) (lb := #[.pointer (some ⟨bo + 1, 0, none⟩), .pointer (some ⟨bo + 1 + 1, 0, none⟩)]) rfl trivial (enters_of Tryz.func88 (by kernel_rfl) rfl)
      (pairs_stops A B n c m d a b (bo + 1) (bo + 1 + 1) (n + m) w w1 HN.out HN2.out (by omega) (by omega) rfl hc hd HM.out.rd HM2.out.rd (fun r hr => ⟨HM.out.ob r hr, HM.out.sz r hr⟩) (fun r hr => ⟨HM2.out.ob r hr, HM2.out.sz r hr⟩) WBl'.out (by omega) (by omega) WA'.out WB'.out)
      (fun h k => Below.trans h k) (fun W l o o' hl ho h1 h2 => belowK_b (w := w1) WBl'.out.size W l o o' hl ho h1 h2) (Below.refl _ _) (fun _ => rfl)
      (DfI w w.heap.size bo) (fun _ _ _ => False) (dfI_own w w.heap.size bo _ (Nat.le_refl _) WBl'.out.size) (fun _ _ _ _ _ h _ _ => h)
      ⟨⟨_, WO'.out, World.ownsRow_nil _ _ _ _⟩, WBl'.out, by omega⟩
      (fun x a' W' => ∃ g, a' = { tmps := #[.agg #[.slice A n c], .agg #[.slice B m d], .pointer (some ⟨w.heap.size, 0, none⟩), .pointer (some ⟨w.heap.size + 1, 0, none⟩), .slice none 0 0, .pointer (some ⟨bo, 0, none⟩), .pointer (some ⟨g, 0, none⟩), .agg #[.slice A n c], .agg #[.slice B m d], .slice (some ⟨w.heap.size + 1 + 1, 0, none⟩) 2 2, .bool true, .bool false, .agg #[.slice A n c], .agg #[.slice B m d], .func (.func 88) #[] #[.pointer (some ⟨bo + 1, 0, none⟩), .pointer (some ⟨bo + 1 + 1, 0, none⟩)], .agg (dvC x.1).toArray, undef, undef, undef, undef, undef, undef, undef], defers := [] } ∧ W'.heap[g]? = some (.cells (dvC x.1).toArray 45 (0, 0)) ∧ bo + 3 ≤ g)
      (fun x a' s X Y row hx hg hrow => by obtain ⟨g, h1, h2, h3⟩ := hx; exact ⟨g, h1, blk_keptR h2 hg (fun r e => (hrow r e).2), h3⟩) ?assign ?body ?done ?stop
    case assign =>
      rintro l pre ⟨x, hx⟩ W K hI hK
      obtain ⟨A1, q1, v1, -⟩ := hx.1.o.rs
      obtain ⟨A2, q2, v2, -⟩ := hx.1.o.ts
      obtain ⟨A3, q3, v3, -⟩ := hx.1.n.rs
      obtain ⟨A4, q4, v4, -⟩ := hx.1.n.ts
      have eC := dvC_eq v1 v2 v3 v4
      dsimp only at hK ⊢
      rw [eC]
      unfold dlL at eC ⊢
      gi_wp2_with fail
      exact hK _ _ ((KeepsOthers.alloc W _).from _) ((Below.refl _ _).alloc (hI.2.1.size) _) ((dfI_own w w.heap.size bo w1.heap.size (Nat.le_refl _) WBl'.out.size).alloc _ hI) ⟨W.heap.size, by rw [eC], by rw [eC]; exact heap_alloc_new W _, hI.2.2⟩
    case body =>
      rintro l pre ⟨x, hx⟩ a' W hl0 hrec ⟨⟨v, hbx, hown⟩, hbel, hz⟩ ⟨g, rfl, hg, hgb⟩ hlen
      obtain ⟨A1, q1, v1, -⟩ := hx.1.o.rs
      obtain ⟨A2, q2, v2, -⟩ := hx.1.o.ts
      obtain ⟨A3, q3, v3, -⟩ := hx.1.n.rs
      obtain ⟨A4, q4, v4, -⟩ := hx.1.n.ts
      have eC := dvC_eq v1 v2 v3 v4
      have DF := Lib.hid (fun (u : World) (hu : Below W.heap.size W u) => differs_any x u (hx.1.below (hbel.trans (hu.mono hbel.size))) hx.2)
      have SN := Lib.hid (difV_snoc pre ⟨x, hx⟩)
      dsimp only at hg ⊢
      rw [eC] at hg DF
      unfold dlL at hg DF
      have c0 := cell_of_row W g 0 _ _ _ hg
      have c1 := cell_of_row W g 1 _ _ _ hg
      have c2 := cell_of_row W g 2 _ _ _ hg
      have c3 := cell_of_row W g 3 _ _ _ hg
      have c4 := cell_of_row W g 4 _ _ _ hg
      have c5 := cell_of_row W g 5 _ _ _ hg
      have c6 := cell_of_row W g 6 _ _ _ hg
      have c7 := cell_of_row W g 7 _ _ _ hg
      have c8 := cell_of_row W g 8 _ _ _ hg
      have c9 := cell_of_row W g 9 _ _ _ hg
      have c10 := cell_of_row W g 10 _ _ _ hg
      have c11 := cell_of_row W g 11 _ _ _ hg
      have c12 := cell_of_row W g 12 _ _ _ hg
      have c13 := cell_of_row W g 13 _ _ _ hg
      have c14 := cell_of_row W g 14 _ _ _ hg
      simp at c0 c1 c2 c3 c4 c5 c6 c7 c8 c9 c10 c11 c12 c13 c14
      have HG := Lib.hid hg
      have HBX := Lib.hid hbx
      have HOW := Lib.hid hown
      have HBE := Lib.hid hbel
      have gW : g < W.heap.size := (Array.getElem?_eq_some_iff.1 hg).1
      clear hg hbx hown hbel eC
      gi_wp2_with fail
      refine ⟨trivial, ?_⟩
      refine (CallsIn.inRound l (callsIn_wide.2 (DF.out W (Below.refl _ _)))).mono ?_
      rintro e w2 ⟨rfl, b2⟩
      have B2 := Lib.hid b2
      have bW : w.heap.size ≤ W.heap.size := HBE.out.size
      have X1 := Lib.hid ((b2.block g gW).trans HG.out)
      have sz2 := b2.size
      have hk1 : (difV pre).length ≤ pre.length := difV_len pre
      have hk2 : (difV pre).length ≤ 40000 := by omega
      clear b2 c0 c1 c2 c3 c4 c5 c6 c7 c8 c9 c10 c11 c12 c13 c14 DF HG hk1
      cases hdf : At.differs x.d
      · rw [hdf] at SN
        gi_wp2_with fail
        refine ⟨(ko_below B2.out).from _, B2.out.mono bW, ⟨⟨v, (B2.out.block bo (lt_of_block HBX.out)).trans HBX.out, ?_⟩, HBE.out.trans (B2.out.mono bW), by omega⟩⟩
        rw [SN.out]
        simpa using own_below HOW.out B2.out (Nat.le_refl _)
      · rw [hdf] at SN
        obtain ⟨A5, c5, ev5, -⟩ := own_sl HOW.out
        subst ev5
        have hbo := HBX.out.cell
        have y0 : w2.cell? ⟨bo, 0, none⟩ = some (.slice A5 (difV pre).length c5) := (B2.out.cell (p := ⟨bo, 0, none⟩) (lt_of_block HBX.out)).trans hbo
        have c0 := cell_of_row w2 g 0 _ _ _ X1.out
        have c1 := cell_of_row w2 g 1 _ _ _ X1.out
        have c2 := cell_of_row w2 g 2 _ _ _ X1.out
        have c3 := cell_of_row w2 g 3 _ _ _ X1.out
        have c4 := cell_of_row w2 g 4 _ _ _ X1.out
        have c5' := cell_of_row w2 g 5 _ _ _ X1.out
        have c6 := cell_of_row w2 g 6 _ _ _ X1.out
        have c7 := cell_of_row w2 g 7 _ _ _ X1.out
        have c8 := cell_of_row w2 g 8 _ _ _ X1.out
        have c9 := cell_of_row w2 g 9 _ _ _ X1.out
        have c10 := cell_of_row w2 g 10 _ _ _ X1.out
        have c11 := cell_of_row w2 g 11 _ _ _ X1.out
        have c12 := cell_of_row w2 g 12 _ _ _ X1.out
        have c13 := cell_of_row w2 g 13 _ _ _ X1.out
        have c14 := cell_of_row w2 g 14 _ _ _ X1.out
        simp at c0 c1 c2 c3 c4 c5' c6 c7 c8 c9 c10 c11 c12 c13 c14
        obtain ⟨i, hi, hz', hsi, hby⟩ := info_parts info_dl
        have HI := Lib.hid hi
        have HZ' := Lib.hid hz'
        have HSI := Lib.hid hsi
        have HBY := Lib.hid hby
        have EC : Hid (dvsC [x] = [.string (mkB x.id), .bool x.was, .bool x.is, .string (mkB x.o.c.id), .int .i64 x.o.c.kind, .int .i64 x.o.c.x, .int .i64 x.o.c.y, .slice A1 x.o.c.refs.length q1, .slice A2 x.o.c.tags.length q2, .string (mkB x.n.c.id), .int .i64 x.n.c.kind, .int .i64 x.n.c.x, .int .i64 x.n.c.y, .slice A3 x.n.c.refs.length q3, .slice A4 x.n.c.tags.length q4]) := Lib.hid (by unfold dvsC; rw [List.flatMap_singleton, dvC_eq v1 v2 v3 v4]; rfl)
        have OW2 := Lib.hid (own_below HOW.out B2.out (Nat.le_refl _))
        clear hbo hi hz' hsi hby v1 v2 v3 v4
        have N1 : Hid (∀ (j : Nat) (u : Value), ([.string (mkB x.id), .bool x.was, .bool x.is, .string (mkB x.o.c.id), .int .i64 x.o.c.kind, .int .i64 x.o.c.x, .int .i64 x.o.c.y, .slice A1 x.o.c.refs.length q1, .slice A2 x.o.c.tags.length q2, .string (mkB x.n.c.id), .int .i64 x.n.c.kind, .int .i64 x.n.c.x, .int .i64 x.n.c.y, .slice A3 x.n.c.refs.length q3, .slice A4 x.n.c.tags.length q4] : List Value)[j]? = some u → (w2.alloc (.cells #[.string (mkB x.id), .bool x.was, .bool x.is, .string (mkB x.o.c.id), .int .i64 x.o.c.kind, .int .i64 x.o.c.x, .int .i64 x.o.c.y, .slice A1 x.o.c.refs.length q1, .slice A2 x.o.c.tags.length q2, .string (mkB x.n.c.id), .int .i64 x.n.c.kind, .int .i64 x.n.c.x, .int .i64 x.n.c.y, .slice A3 x.n.c.refs.length q3, .slice A4 x.n.c.tags.length q4] 45)).cell? ((⟨w2.heap.size, 0, none⟩ : Addr).add j) = some u) := Lib.hid (World.news_of_block (fr := (0, 0)) (heap_alloc_new w2 (.cells #[.string (mkB x.id), .bool x.was, .bool x.is, .string (mkB x.o.c.id), .int .i64 x.o.c.kind, .int .i64 x.o.c.x, .int .i64 x.o.c.y, .slice A1 x.o.c.refs.length q1, .slice A2 x.o.c.tags.length q2, .string (mkB x.n.c.id), .int .i64 x.n.c.kind, .int .i64 x.n.c.x, .int .i64 x.n.c.y, .slice A3 x.n.c.refs.length q3, .slice A4 x.n.c.tags.length q4] 45)))
        gi_wp2_with (gi_at_builtin; refine wpListIn_append_own _ rfl (.tmp 18) (.tmp 20) 28 rfl (bo + 1) 45 i _ 15 200 Tryz.underlying28 HI.out HZ'.out HSI.out HBY.out rfl (by decide) _ (difV pre).length (dvsC (difV pre)) rfl (OW2.out.alloc _) ⟨w2.heap.size, 0, none⟩ 1 1 [.string (mkB x.id), .bool x.was, .bool x.is, .string (mkB x.o.c.id), .int .i64 x.o.c.kind, .int .i64 x.o.c.x, .int .i64 x.o.c.y, .slice A1 x.o.c.refs.length q1, .slice A2 x.o.c.tags.length q2, .string (mkB x.n.c.id), .int .i64 x.n.c.kind, .int .i64 x.n.c.x, .int .i64 x.n.c.y, .slice A3 x.n.c.refs.length q3, .slice A4 x.n.c.tags.length q4] rfl rfl N1.out (by intro y hy; simp at hy; rcases hy with rfl | rfl | rfl | rfl | rfl | rfl | rfl | rfl | rfl | rfl | rfl | rfl | rfl | rfl | rfl <;> rfl) (by unfold maxLen; omega) (by omega) (by simp; omega) ?_; intro v6 w6 ho6 hg6 hv6; obtain ⟨d1, d2, d3⟩ := app_doneK HBX.out (by decide) HOW.out (by omega) B2.out hg6; have HO6 := Lib.hid ho6; have D1 := Lib.hid d1; have D2 := Lib.hid d2; have D3 := Lib.hid d3; have y6 : w6.cell? ⟨bo, 0, none⟩ = some (.slice A5 (difV pre).length c5) := (cell_of_row w6 bo 0 _ _ _ d1); have f6 := free_blk d1 0; obtain ⟨A6, c6', ev6, -⟩ := own_sl ho6; subst ev6; clear ho6 hg6 hv6 d1 d2 d3 y0 c0 c1 c2 c3 c4 c5' c6 c7 c8 c9 c10 c11 c12 c13 c14)
        refine ⟨(D2.out.trans (KeepsOthers.setCell _ _ _)).from _, (D3.out.mono (by omega)).setCell (by show w.heap.size ≤ bo; omega) _, ⟨⟨_, Boxed.set _ D1.out, ?_⟩, HBE.out.trans ((D3.out.mono (by omega)).setCell (by show w.heap.size ≤ bo; omega) _), ?_⟩⟩
        · have e1 : dvsC (difV pre ++ [x]) = dvsC (difV pre) ++ dvsC [x] := dvsC_app _ _
          rw [SN.out, if_pos trivial, List.length_append, e1, EC.out]
          exact own_set D1.out (by decide) HO6.out 0 _
        · have := (KeepsWalks.setCell w6 ⟨bo, 0, none⟩ (.slice A6 ((difV pre).length + 1) c6')).size
          have := D3.out.size
          omega
    case done =>
      rintro D ys W hD hys ⟨⟨v, hbx, hown⟩, hbel, hz⟩ hdef
      have hc0 := hbx.cell
      have HYS := Lib.hid hys
      have HOW := Lib.hid hown
      have HDEF := Lib.hid hdef
      obtain ⟨A5, c5, ev5, hr5⟩ := own_sl HOW.out
      subst ev5
      have RD : Rd (W.putObj D (.deferred none)) A5 (dvsC (difV ys)) := own_rd (ownsRow_putObj HOW.out _ HDEF.out rfl)
      have BL : Below w.heap.size w (W.putObj D (.deferred none)) := hbel.trans (belowK_b (w := w) (Nat.le_refl _) W D _ _ (by have := WZ; omega) HDEF.out rfl rfl)
      have RD2 := Lib.hid RD
      have BL2 := Lib.hid BL
      have hcc : (difV ys).length ≤ c5 := by
        rcases HOW.out.2 with ⟨e1, e2⟩ | ⟨g, cap, cur, e1, _, _, hc, _⟩
        · injection e1 with _ h1 h2; omega
        · injection e1 with _ h1 h2; omega
      clear hown hbx hdef hys RD BL hr5
      go_wp2_with fail
      refine ⟨by simp, .inl ⟨_, _, rfl, run_takeDeferred HDEF.out, ?_⟩⟩
      exact ⟨_, results_tmp rfl _ _ _, ⟨A5, c5, difV ys, rfl, RD2.out, fun d hd => by
        unfold difV at hd
        obtain ⟨x, hx, rfl⟩ := List.mem_map.1 (List.mem_filter.1 hd).1
        exact x.2, by rw [PE.out, difV_d HYS.out, HN.out, HN2.out]; unfold At.diffG; rw [cts_len, cts_len], hcc, BL2.out⟩⟩
    case stop =>
      rintro D c pre W _ _ h _
      exact h.elim
end Go.Proofs.YtlejeelmlclnkaaGreatDoor
