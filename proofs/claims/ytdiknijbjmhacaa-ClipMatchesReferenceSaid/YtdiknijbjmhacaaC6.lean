/- WALKS: clip: a piece. -/
import Derived.Test.YtdiknijbjmhacaaC5
set_option linter.unusedSimpArgs false
set_option linter.unusedVariables false
namespace Go.Proofs.Ytdiknijbjmhacaa
open Go.RowKit
attribute [local go_sem ↓] Go.wp_at_zero Go.wp_at_succ

theorem bound_any (f d lo hi : Int) (s : Cl.St) (gl gh go : Nat) (w : World) (hv : Vars w gl gh go s) (n1 : gl ≠ gh) (n2 : gl ≠ go) (n3 : gh ≠ go) (hs : Cl.SmS s)
    (hf : -2097152 ≤ f ∧ f ≤ 2097152) (hl : -2097152 ≤ lo ∧ lo ≤ 2097152) (hh : -2097152 ≤ hi ∧ hi ≤ 2097152) (hd : -4194304 ≤ d ∧ d ≤ 4194304) (hle : lo ≤ hi) :
    Calls Try.prog 47 #[.int .i64 f, .int .i64 d, .int .i64 lo, .int .i64 hi, .pointer (some ⟨go, 0, none⟩), .pointer (some ⟨gl, 0, none⟩), .pointer (some ⟨gh, 0, none⟩)] w
      fun e w' => e = .returned (.tuple #[]) ∧ Vars w' gl gh go (Cl.bnd f d lo hi s) ∧ But (X3 gl gh go) w w' := by
  by_cases h0 : d = 0
  · subst h0; exact bound_zero f lo hi s gl gh go w hv n1 n2 n3
  · exact bound_nz f d lo hi s gl gh go w hv n1 n2 n3 h0 hs hf hl hh hd hle

/-- what a piece has made when it begins -/
structure PW (w : World) (g0 g1 g2 g3 g4 g5 g6 g7 : Nat) (px py qx qy : Int) (b : Cl.Bx) (s : Cl.St) : Prop where
  p : w.heap[g0]? = some (.cells #[.int .i64 px, .int .i64 py] 24 (0, 0))
  q : w.heap[g1]? = some (.cells #[.int .i64 qx, .int .i64 qy] 24 (0, 0))
  b : BoxAt w g2 b
  r : w.heap[g3]? = some (.cells #[.int .i64 0, .int .i64 0] 24 (0, 0))
  t : w.heap[g4]? = some (.cells #[.int .i64 0, .int .i64 0] 24 (0, 0))
  v : Vars w g5 g6 g7 s
theorem PW.keep {w w' : World} {g0 g1 g2 g3 g4 g5 g6 g7 : Nat} {px py qx qy : Int} {b : Cl.Bx} {s : Cl.St} (h : PW w g0 g1 g2 g3 g4 g5 g6 g7 px py qx qy b s) {B : Nat} (hb : Below B w w') (h0 : g0 < B) (h1 : g1 < B) (h2 : g2 < B) (h3 : g3 < B) (h4 : g4 < B) (h5 : g5 < B) (h6 : g6 < B) (h7 : g7 < B) : PW w' g0 g1 g2 g3 g4 g5 g6 g7 px py qx qy b s :=
  ⟨(hb.block _ h0).trans h.p, (hb.block _ h1).trans h.q, h.b.below hb h2, (hb.block _ h3).trans h.r, (hb.block _ h4).trans h.t, h.v.keep hb h5 h6 h7⟩
theorem PW.but {w w' : World} {g0 g1 g2 g3 g4 g5 g6 g7 : Nat} {px py qx qy : Int} {b : Cl.Bx} {s s' : Cl.St} (h : PW w g0 g1 g2 g3 g4 g5 g6 g7 px py qx qy b s) (hb : But (X3 g5 g6 g7) w w') (hv : Vars w' g5 g6 g7 s') (h0 : g0 < g5) (h1 : g1 < g5) (h2 : g2 < g5) (h3 : g3 < g5) (h4 : g4 < g5) (h5 : g5 < g6) (h6 : g6 < g7) : PW w' g0 g1 g2 g3 g4 g5 g6 g7 px py qx qy b s' := by
  have k : ∀ g, g < g5 → w'.heap[g]? = w.heap[g]? := fun g hg => hb.block g (by have := h.v.lt; omega) (by unfold X3; omega)
  exact ⟨(k _ h0).trans h.p, (k _ h1).trans h.q, (k _ h2).trans h.b, (k _ h3).trans h.r, (k _ h4).trans h.t, hv⟩
theorem alloc_old (w : World) (o : Obj) {k : Nat} (h : k < w.heap.size) : (w.alloc o).heap[k]? = w.heap[k]? := ((Below.refl _ _).alloc (Nat.le_refl _) o).block k h
theorem alloc_new' (w : World) (cs : Array Value) (t : TypeId) {k : Nat} (h : k = w.heap.size) : (w.alloc (.cells cs t)).heap[k]? = some (.cells cs t (0, 0)) := by subst h; exact heap_alloc_new w _
def pw0 (w : World) (px py qx qy : Int) (b : Cl.Bx) : World := ((((((((w.alloc (.cells #[.int .i64 px, .int .i64 py] 24)).alloc (.cells #[.int .i64 qx, .int .i64 qy] 24)).alloc
  (.cells #[.int .i64 b.x0, .int .i64 b.y0, .int .i64 b.x1, .int .i64 b.y1] 26)).alloc (.cells #[.int .i64 0, .int .i64 0] 24)).alloc (.cells #[.int .i64 0, .int .i64 0] 24)).alloc
  (.cells #[.int .i64 0, .int .i64 1] 60)).alloc (.cells #[.int .i64 1, .int .i64 1] 60)).alloc (.cells #[.bool true] 4))
theorem pw0_size (w : World) (px py qx qy : Int) (b : Cl.Bx) : (pw0 w px py qx qy b).heap.size = w.heap.size + 1 + 1 + 1 + 1 + 1 + 1 + 1 + 1 := by simp [pw0]
theorem pw0_below (w : World) (px py qx qy : Int) (b : Cl.Bx) : Below w.heap.size w (pw0 w px py qx qy b) := by
  unfold pw0
  have s : ∀ (u : World) (o : Obj), Below w.heap.size w u → Below w.heap.size w (u.alloc o) := fun u o h => h.alloc h.size o
  exact s _ _ (s _ _ (s _ _ (s _ _ (s _ _ (s _ _ (s _ _ (s _ _ (Below.refl _ _))))))))
theorem pw0_at (w : World) (px py qx qy : Int) (b : Cl.Bx) : PW (pw0 w px py qx qy b) w.heap.size (w.heap.size + 1) (w.heap.size + 1 + 1) (w.heap.size + 1 + 1 + 1) (w.heap.size + 1 + 1 + 1 + 1) (w.heap.size + 1 + 1 + 1 + 1 + 1) (w.heap.size + 1 + 1 + 1 + 1 + 1 + 1) (w.heap.size + 1 + 1 + 1 + 1 + 1 + 1 + 1) px py qx qy b Cl.st0 := by
  refine ⟨?_, ?_, ?_, ?_, ?_, ?_, ?_, ?_⟩
  all_goals
    unfold pw0
    try unfold BoxAt
    repeat (first | exact alloc_new' _ _ _ (by first | (simp; done) | (simp; omega)) | rw [alloc_old _ _ (by first | (simp; done) | (simp; omega))])

/-- behind the two variables: where they lie is left open -/
structure PX (W V : World) (gx gy : Nat) (dx dy : Int) : Prop where
  x : V.heap[gx]? = some (.cells #[.int .i64 dx] 3 (0, 0))
  y : V.heap[gy]? = some (.cells #[.int .i64 dy] 3 (0, 0))
  lx : W.heap.size ≤ gx
  ly : W.heap.size ≤ gy
  bel : Below W.heap.size W V
theorem px_1 (W : World) (dx dy : Int) : PX W (((W.alloc (.cells #[.int .i64 dx] 3)).alloc (.cells #[.int .i64 dy] 3)).drew) W.heap.size (W.heap.size + 1) dx dy :=
  ⟨(alloc_old (W.alloc (.cells #[.int .i64 dx] 3)) (.cells #[.int .i64 dy] 3) (by simp)).trans (alloc_new' W _ _ rfl), alloc_new' (W.alloc (.cells #[.int .i64 dx] 3)) #[.int .i64 dy] 3 (by simp), Nat.le_refl _, by omega, (((Below.refl _ _).alloc (Nat.le_refl _) _).alloc (by simp) _).drew⟩
theorem px_2 (W : World) (dx dy : Int) : PX W (((W.alloc (.cells #[.int .i64 dy] 3)).alloc (.cells #[.int .i64 dx] 3)).drew) (W.heap.size + 1) W.heap.size dx dy :=
  ⟨alloc_new' (W.alloc (.cells #[.int .i64 dy] 3)) #[.int .i64 dx] 3 (by simp), (alloc_old (W.alloc (.cells #[.int .i64 dy] 3)) (.cells #[.int .i64 dx] 3) (by simp)).trans (alloc_new' W _ _ rfl), by omega, Nat.le_refl _, (((Below.refl _ _).alloc (Nat.le_refl _) _).alloc (by simp) _).drew⟩
theorem cell_two {w : World} {g : Nat} {a b : Value} {t : TypeId} (h : w.heap[g]? = some (.cells #[a, b] t (0, 0))) : w.cell? ⟨g, 0, none⟩ = some a ∧ w.cell? ⟨g, 1, none⟩ = some b := ⟨cell_of_row w g 0 _ _ _ h, cell_of_row w g 1 _ _ _ h⟩
theorem blk_two (w : World) (g k : Nat) (u v : Value) (h : k ≠ g) : ((w.setCell ⟨g, 0, none⟩ u).setCell ⟨g, 1, none⟩ v).heap[k]? = w.heap[k]? := (Below.heap_setCell _ _ _ _ h).trans (Below.heap_setCell _ _ _ _ h)
theorem set_two {w : World} {g : Nat} {a b : Value} {t : TypeId} (h : w.heap[g]? = some (.cells #[a, b] t (0, 0))) (u v : Value) : ((w.setCell ⟨g, 0, none⟩ u).setCell ⟨g, 1, none⟩ v).heap[g]? = some (.cells #[u, v] t (0, 0)) := by simp [World.setCell, Array.getElem?_modify, h]
theorem free_blk {w : World} {g : Nat} {cs : Array Value} {t : TypeId} (h : w.heap[g]? = some (.cells cs t (0, 0))) (i : Nat) : w.frozen? ⟨g, i, none⟩ = false := by simp [World.frozen?, h]

set_option maxHeartbeats 40000000 in
set_option maxRecDepth 100000 in
theorem piece_any (px py qx qy : Int) (b : Cl.Bx) (w : World) (hp : Cl.nearB px py = true) (hq : Cl.nearB qx qy = true) (hb : Cl.boxB b = true) :
    Calls Try.prog 29 #[.agg #[.int .i64 px, .int .i64 py], .agg #[.int .i64 qx, .int .i64 qy], .agg #[.int .i64 b.x0, .int .i64 b.y0, .int .i64 b.x1, .int .i64 b.y1]] w
      fun e w' => e = .returned (.tuple #[.agg #[.int .i64 (Cl.pcA (px, py) (qx, qy) b).1, .int .i64 (Cl.pcA (px, py) (qx, qy) b).2], .agg #[.int .i64 (Cl.pcB (px, py) (qx, qy) b).1, .int .i64 (Cl.pcB (px, py) (qx, qy) b).2], .bool (Cl.pcOk (px, py) (qx, qy) b)]) ∧ Below w.heap.size w w' := by
  have S1 := Lib.hid (Cl.st1_sm (p := (px, py)) (q := (qx, qy)) hp hq hb)
  have S2 := Lib.hid (Cl.st2_sm (p := (px, py)) (q := (qx, qy)) hp hq hb)
  obtain ⟨⟨hp1, hp2⟩, hp3, hp4⟩ := Cl.near_iff.1 hp
  obtain ⟨⟨hq1, hq2⟩, hq3, hq4⟩ := Cl.near_iff.1 hq
  obtain ⟨⟨⟨b1, b2⟩, b3, b4⟩, ⟨⟨b5, b6⟩, b7, b8⟩, b9, b10⟩ := Cl.box_iff.1 hb
  obtain ⟨x0, y0, x1, y1⟩ := b
  simp only at b1 b2 b3 b4 b5 b6 b7 b8 b9 b10
  clear hp hq hb
  have wx : IntKind.i64.wrap (qx - px) = qx - px := IntWalk.i64_in _ (by omega)
  have wy : IntKind.i64.wrap (qy - py) = qy - py := IntWalk.i64_in _ (by omega)
  go_enter Try.func29, Try.ntmps29
  go_wp2_with fail
  have W0 := Lib.hid (pw0_at w px py qx qy ⟨x0, y0, x1, y1⟩)
  have Z0 := Lib.hid (pw0_size w px py qx qy ⟨x0, y0, x1, y1⟩)
  have B0 := Lib.hid (pw0_below w px py qx qy ⟨x0, y0, x1, y1⟩)
  change Code.wp _ _ _ _ (pw0 w px py qx qy ⟨x0, y0, x1, y1⟩)
  generalize pw0 w px py qx qy ⟨x0, y0, x1, y1⟩ = W at *
  obtain ⟨g7, h7⟩ : ∃ g, g = w.heap.size + 1 + 1 + 1 + 1 + 1 + 1 + 1 := ⟨_, rfl⟩
  obtain ⟨g6, h6⟩ : ∃ g, g = w.heap.size + 1 + 1 + 1 + 1 + 1 + 1 := ⟨_, rfl⟩
  obtain ⟨g5, h5⟩ : ∃ g, g = w.heap.size + 1 + 1 + 1 + 1 + 1 := ⟨_, rfl⟩
  obtain ⟨g4, h4⟩ : ∃ g, g = w.heap.size + 1 + 1 + 1 + 1 := ⟨_, rfl⟩
  obtain ⟨g3, h3⟩ : ∃ g, g = w.heap.size + 1 + 1 + 1 := ⟨_, rfl⟩
  obtain ⟨g2, h2⟩ : ∃ g, g = w.heap.size + 1 + 1 := ⟨_, rfl⟩
  obtain ⟨g1, h1⟩ : ∃ g, g = w.heap.size + 1 := ⟨_, rfl⟩
  obtain ⟨g0, h0⟩ : ∃ g, g = w.heap.size := ⟨_, rfl⟩
  rw [← h7] at W0 Z0 ⊢
  rw [← h6] at W0 ⊢
  rw [← h5] at W0 ⊢
  rw [← h4] at W0 ⊢
  rw [← h3] at W0 ⊢
  rw [← h2] at W0 ⊢
  rw [← h1] at W0 ⊢
  rw [← h0] at W0 B0 ⊢
  have i0 : g0 < g1 := by omega
  have i1 : g1 < g2 := by omega
  have i2 : g2 < g3 := by omega
  have i3 : g3 < g4 := by omega
  have i4 : g4 < g5 := by omega
  have i5 : g5 < g6 := by omega
  have i6 : g6 < g7 := by omega
  have i7 : g7 < W.heap.size := by have := Z0.out; omega
  have hw0 := Lib.hid h0; clear h0 h1 h2 h3 h4 h5 h6 h7
  have c0 : W.cell? ⟨g0, 0, none⟩ = some (.int .i64 px) := cell_of_row W g0 0 _ _ _ W0.out.p
  have c1 : W.cell? ⟨g0, 1, none⟩ = some (.int .i64 py) := cell_of_row W g0 1 _ _ _ W0.out.p
  have c2 : W.cell? ⟨g1, 0, none⟩ = some (.int .i64 qx) := cell_of_row W g1 0 _ _ _ W0.out.q
  have c3 : W.cell? ⟨g1, 1, none⟩ = some (.int .i64 qy) := cell_of_row W g1 1 _ _ _ W0.out.q
  go_region_held3 (fun w' => w'.cell? ⟨g0, 0, none⟩ = some (.int .i64 px) ∧ w'.cell? ⟨g0, 1, none⟩ = some (.int .i64 py) ∧ w'.cell? ⟨g1, 0, none⟩ = some (.int .i64 qx) ∧ w'.cell? ⟨g1, 1, none⟩ = some (.int .i64 qy))
    (first
      | go_keep
      | ((try go_split_ands); (try dsimp only); (repeat' apply And.intro) <;> (first | go_keep | (simp [*]; done))))
    (fail)
  · skip
    have PXV := Lib.hid (px_1 W (qx - px) (qy - py))
    clear c0 c1 c2 c3
    change Exit.then _ _ _ _ (((W.alloc (.cells #[.int .i64 (qx - px)] 3)).alloc (.cells #[.int .i64 (qy - py)] 3)).drew)
    generalize (((W.alloc (.cells #[.int .i64 (qx - px)] 3)).alloc (.cells #[.int .i64 (qy - py)] 3)).drew) = V at *
    obtain ⟨gx, hgx⟩ : ∃ g, g = W.heap.size := ⟨_, rfl⟩; obtain ⟨gy, hgy⟩ : ∃ g, g = (W.heap.size + 1) := ⟨_, rfl⟩
    rw [← hgy] at PXV ⊢; rw [← hgx] at PXV ⊢
    have jx : g7 < gx := by omega
    have jy : g7 < gy := by omega
    have jxy : gx ≠ gy := by omega
    clear hgx hgy
    have WV := Lib.hid (W0.out.keep PXV.out.bel (by omega) (by omega) (by omega) (by omega) (by omega) (by omega) (by omega) i7)
    have BV := Lib.hid (B0.out.trans (PXV.out.bel.mono (by omega)))
    have kx := lt_of_block PXV.out.x; have ky := lt_of_block PXV.out.y
    have HX := Lib.hid PXV.out.x; have HY := Lib.hid PXV.out.y; clear W0 B0 PXV
    obtain ⟨c0, c1⟩ := cell_two WV.out.p; obtain ⟨m0, m1, m2, m3⟩ := WV.out.b.c; have cx := cell_of_one HX.out; have cy := cell_of_one HY.out; simp only at m0 m1 m2 m3
    go_wp2_with fail
    refine (bound_any px (qx - px) x0 x1 Cl.st0 g5 g6 g7 _ WV.out.v (by omega) (by omega) (by omega) Cl.sm0 ⟨hp1, hp2⟩ ⟨b1, b2⟩ ⟨b5, b6⟩ (by omega) b9).mono ?_
    rintro e V1 ⟨rfl, hv, hb⟩
    clear c0 c1 m0 m1 m2 m3 cx cy
    have WV1 := Lib.hid (WV.out.but hb hv (by omega) (by omega) (by omega) (by omega) (by omega) i5 i6)
    have HX1 := Lib.hid ((hb.block gx kx (by unfold X3; omega)).trans HX.out); have HY1 := Lib.hid ((hb.block gy ky (by unfold X3; omega)).trans HY.out)
    have BV1 := Lib.hid (BV.out.trans (hb.below (B := g0) (by have := kx; omega) (by unfold X3; omega)))
    have kx1 := lt_of_block HX1.out; have ky1 := lt_of_block HY1.out; clear hb hv HX HY WV BV
    obtain ⟨c0, c1⟩ := cell_two WV1.out.p; obtain ⟨m0, m1, m2, m3⟩ := WV1.out.b.c; have cx := cell_of_one HX1.out; have cy := cell_of_one HY1.out; simp only at m0 m1 m2 m3
    go_wp2_with fail
    refine (bound_any py (qy - py) y0 y1 (Cl.st1 (px, py) (qx, qy) ⟨x0, y0, x1, y1⟩) g5 g6 g7 _ WV1.out.v (by omega) (by omega) (by omega) S1.out ⟨hp3, hp4⟩ ⟨b3, b4⟩ ⟨b7, b8⟩ (by omega) b10).mono ?_
    rintro e V2 ⟨rfl, hv, hb⟩
    clear c0 c1 m0 m1 m2 m3 cx cy
    have WV2 : Hid (PW V2 g0 g1 g2 g3 g4 g5 g6 g7 px py qx qy ⟨x0, y0, x1, y1⟩ (Cl.st2 (px, py) (qx, qy) ⟨x0, y0, x1, y1⟩)) := Lib.hid (WV1.out.but hb hv (by omega) (by omega) (by omega) (by omega) (by omega) i5 i6)
    have HX2 := Lib.hid ((hb.block gx kx1 (by unfold X3; omega)).trans HX1.out); have HY2 := Lib.hid ((hb.block gy ky1 (by unfold X3; omega)).trans HY1.out)
    have BV2 := Lib.hid (BV1.out.trans (hb.below (B := g0) (by have := kx1; omega) (by unfold X3; omega)))
    have kx2 := lt_of_block HX2.out; have ky2 := lt_of_block HY2.out; clear hb hv HX1 HY1 WV1 BV1 kx ky kx1 ky1 S1
    have HOK : Hid (Cl.pcOk (px, py) (qx, qy) ⟨x0, y0, x1, y1⟩ = ((Cl.st2 (px, py) (qx, qy) ⟨x0, y0, x1, y1⟩).ok && !Cl.rless (Cl.st2 (px, py) (qx, qy) ⟨x0, y0, x1, y1⟩).high (Cl.st2 (px, py) (qx, qy) ⟨x0, y0, x1, y1⟩).low)) := Lib.hid rfl
    have HPA : Hid (Cl.pcA (px, py) (qx, qy) ⟨x0, y0, x1, y1⟩ = (px + Cl.rround (Cl.st2 (px, py) (qx, qy) ⟨x0, y0, x1, y1⟩).low (qx - px), py + Cl.rround (Cl.st2 (px, py) (qx, qy) ⟨x0, y0, x1, y1⟩).low (qy - py))) := Lib.hid rfl
    have HPB : Hid (Cl.pcB (px, py) (qx, qy) ⟨x0, y0, x1, y1⟩ = (px + Cl.rround (Cl.st2 (px, py) (qx, qy) ⟨x0, y0, x1, y1⟩).high (qx - px), py + Cl.rround (Cl.st2 (px, py) (qx, qy) ⟨x0, y0, x1, y1⟩).high (qy - py))) := Lib.hid rfl
    generalize Cl.st2 (px, py) (qx, qy) ⟨x0, y0, x1, y1⟩ = s at *
    obtain ⟨⟨ln, ld⟩, ⟨hn, hd⟩, ok⟩ := s
    have SL := Lib.hid S2.out.low; have SH := Lib.hid S2.out.high; clear S2
    simp only at SL SH HPA HPB
    obtain ⟨c0, c1⟩ := cell_two WV2.out.p; obtain ⟨m0, m1, m2, m3⟩ := WV2.out.b.c; have cx := cell_of_one HX2.out; have cy := cell_of_one HY2.out; simp only at m0 m1 m2 m3
    obtain ⟨l0, l1⟩ := WV2.out.v.low_c; obtain ⟨h0, h1⟩ := WV2.out.v.high_c; have o0 := WV2.out.v.ok_c; simp only at l0 l1 h0 h1 o0
    obtain ⟨r0, r1⟩ := cell_two WV2.out.r; obtain ⟨t0, t1⟩ := cell_two WV2.out.t; have rf0 := free_blk WV2.out.r 0; have rf1 := free_blk WV2.out.r 1; have tf0 := free_blk WV2.out.t 0; have tf1 := free_blk WV2.out.t 1
    have AR : Hid (∀ (n d : Int) (_ : Cl.Sm ⟨n, d⟩) (u : World), u.cell? ⟨g0, 0, none⟩ = some (.int .i64 px) → u.cell? ⟨g0, 1, none⟩ = some (.int .i64 py) → u.cell? ⟨gx, 0, none⟩ = some (.int .i64 (qx - px)) → u.cell? ⟨gy, 0, none⟩ = some (.int .i64 (qy - py)) → Calls Try.prog 50 #[.func (.func 51) #[.agg #[.int .i64 n, .int .i64 d]] #[], .pointer (some ⟨g0, 0, none⟩), .pointer (some ⟨gx, 0, none⟩), .pointer (some ⟨gy, 0, none⟩)] u fun e w' => e = .returned (.agg #[.int .i64 (px + Cl.rround ⟨n, d⟩ (qx - px)), .int .i64 (py + Cl.rround ⟨n, d⟩ (qy - py))]) ∧ Below u.heap.size u w') := Lib.hid (fun n d hs u k0 k1 k2 k3 => at_any px py (qx - px) (qy - py) n d g0 gx gy u hs ⟨hp1, hp2⟩ ⟨hp3, hp4⟩ (by omega) (by omega) k0 k1 k2 k3 (World.block_lt_of_cell? u _ k0) (World.block_lt_of_cell? u _ k2) (World.block_lt_of_cell? u _ k3))
    clear wx wy
    clear hp1 hp2 hp3 hp4 hq1 hq2 hq3 hq4 b1 b2 b3 b4 b5 b6 b7 b8 b9 b10 m0 m1 m2 m3
    have neg0g3 : g0 ≠ g3 := by omega
    have neg0g4 : g0 ≠ g4 := by omega
    have neg5g3 : g5 ≠ g3 := by omega
    have neg5g4 : g5 ≠ g4 := by omega
    have neg6g3 : g6 ≠ g3 := by omega
    have neg6g4 : g6 ≠ g4 := by omega
    have neg7g3 : g7 ≠ g3 := by omega
    have neg7g4 : g7 ≠ g4 := by omega
    have negxg3 : gx ≠ g3 := by omega
    have negxg4 : gx ≠ g4 := by omega
    have negyg3 : gy ≠ g3 := by omega
    have negyg4 : gy ≠ g4 := by omega
    have neg3g4 : g3 ≠ g4 := by omega
    have mm3 : g0 ≤ g3 := by omega
    have mm4 : g0 ≤ g4 := by omega
    have z0 : g0 ≤ V2.heap.size := by omega
    have z3 : g3 < V2.heap.size := by omega
    have z4 : g4 < V2.heap.size := by omega
    clear Z0 i0 i1 i2 i3 i4 i5 i6 i7
    rcases ok with _ | _
    · go_wp2_with fail
      refine wp_region_noPanic ?_
      refine wp_region_held_drew (S := fun w' => w'.cell? ⟨g0, 0, none⟩ = some (.int .i64 px) ∧ w'.cell? ⟨g0, 1, none⟩ = some (.int .i64 py) ∧ w'.cell? ⟨gx, 0, none⟩ = some (.int .i64 (qx - px)) ∧ w'.cell? ⟨gy, 0, none⟩ = some (.int .i64 (qy - py)) ∧ w'.cell? ⟨g5, 0, none⟩ = some (.int .i64 ln) ∧ w'.cell? ⟨g5, 1, none⟩ = some (.int .i64 ld) ∧ w'.cell? ⟨g6, 0, none⟩ = some (.int .i64 hn) ∧ w'.cell? ⟨g6, 1, none⟩ = some (.int .i64 hd) ∧ w'.cell? ⟨g7, 0, none⟩ = some (.bool false)) (by kernel_rfl) ?_ (fun hHeld => ?_)
      · exact ⟨c0, c1, cx, cy, l0, l1, h0, h1, o0⟩
      have BB : Hid (Below g0 w V2.drew) := Lib.hid BV2.out.drew
      have z0 : g0 ≤ V2.drew.heap.size := z0
      have R0 : Hid (V2.drew.heap[g3]? = _) := Lib.hid WV2.out.r; have T0 : Hid (V2.drew.heap[g4]? = _) := Lib.hid WV2.out.t
      clear r0 r1 t0 t1 rf0 rf1 tf0 tf1 z3 z4 c0 c1 cx cy l0 l1 h0 h1 o0
      generalize V2.drew = u at *
      refine wpAnyH_take (i := 0) (oi := _) (v := ?_) rfl (by kernel_rfl) (by kernel_rfl) (by kernel_rfl) (fun _ _ _ h => h) (Or.inl ⟨by rfl, ?_⟩) (by assumption) ?_
      rotate_left
      · intro w hSw; (try dsimp only at hSw); go_simp; all_goals (with_reducible rfl)
      try simp only [Act.put, List.setIfInBounds_toArray, List.set_cons_zero, List.set_cons_succ]
      refine wpAnyH_take (i := 1) (oi := _) (v := ?_) rfl (by kernel_rfl) (by kernel_rfl) (by kernel_rfl) (fun _ _ _ h => h) (Or.inl ⟨by rfl, ?_⟩) (by assumption) ?_
      rotate_left
      · intro w hSw; (try dsimp only at hSw); go_simp; all_goals (with_reducible rfl)
      try simp only [Act.put, List.setIfInBounds_toArray, List.set_cons_zero, List.set_cons_succ]
      refine wpAnyH_take (i := 4) (oi := _) (v := ?_) rfl (by kernel_rfl) (by kernel_rfl) (by kernel_rfl) (fun _ _ _ h => h) (Or.inl ⟨by rfl, ?_⟩) (by assumption) ?_
      rotate_left
      · intro w hSw; (try dsimp only at hSw); go_simp; all_goals (with_reducible rfl)
      try simp only [Act.put, List.setIfInBounds_toArray, List.set_cons_zero, List.set_cons_succ]
      refine wpAnyH_take (i := 5) (oi := _) (v := ?_) rfl (by kernel_rfl) (by kernel_rfl) (by kernel_rfl) (fun _ _ _ h => h) (Or.inl ⟨by rfl, ?_⟩) (by assumption) ?_
      rotate_left
      · intro w hSw; (try dsimp only at hSw); go_simp; all_goals (with_reducible rfl)
      try simp only [Act.put, List.setIfInBounds_toArray, List.set_cons_zero, List.set_cons_succ]
      refine wpAnyH_take (i := 8) (oi := _) (v := ?_) rfl (by kernel_rfl) (by kernel_rfl) (by kernel_rfl) (fun _ _ _ h => h) (Or.inl ⟨by rfl, ?_⟩) (by assumption) ?_
      rotate_left
      · intro w hSw; (try dsimp only at hSw); go_simp; all_goals (with_reducible rfl)
      try simp only [Act.put, List.setIfInBounds_toArray, List.set_cons_zero, List.set_cons_succ]
      refine wpAnyH_ready (rs := [2, 6]) (by kernel_rfl) (by simp) ?_
      refine AllReadyH.cons (o := _) rfl (fun K hK => ?_) (AllReadyH.cons (o := _) rfl (fun K hK => ?_) AllReadyH.nil)
      · skip
        go_simp
        refine hK.out _ _ (hHeld) (fun hHeld2 => ?_)
        clear hK K hHeld
        have hHeld := hHeld2; clear hHeld2
        try simp only [Act.put, List.setIfInBounds_toArray, List.set_cons_zero, List.set_cons_succ]
        refine wpAnyH_ready (rs := [3, 6]) (by kernel_rfl) (by simp) ?_
        refine AllReadyH.cons (o := _) rfl (fun K hK => ?_) (AllReadyH.cons (o := _) rfl (fun K hK => ?_) AllReadyH.nil)
        · skip
          go_simp
          have hz := lt_of_block R0.out; have hz2 := lt_of_block T0.out
          refine (AR.out _ _ SL.out _ hHeld.1 hHeld.2.1 hHeld.2.2.1 hHeld.2.2.2.1).mono ?_
          rintro e u3 ⟨rfl, hb⟩
          have hN : u3.cell? ⟨g0, 0, none⟩ = some (.int .i64 px) ∧ u3.cell? ⟨g0, 1, none⟩ = some (.int .i64 py) ∧ u3.cell? ⟨gx, 0, none⟩ = some (.int .i64 (qx - px)) ∧ u3.cell? ⟨gy, 0, none⟩ = some (.int .i64 (qy - py)) ∧ u3.cell? ⟨g5, 0, none⟩ = some (.int .i64 ln) ∧ u3.cell? ⟨g5, 1, none⟩ = some (.int .i64 ld) ∧ u3.cell? ⟨g6, 0, none⟩ = some (.int .i64 hn) ∧ u3.cell? ⟨g6, 1, none⟩ = some (.int .i64 hd) ∧ u3.cell? ⟨g7, 0, none⟩ = some (.bool false) := by
            obtain ⟨c0, c1, cx, cy, l0, l1, h0, h1, o0⟩ := hHeld
            exact ⟨(hb.cell (World.block_lt_of_cell? _ _ c0)).trans c0, (hb.cell (World.block_lt_of_cell? _ _ c1)).trans c1, (hb.cell (World.block_lt_of_cell? _ _ cx)).trans cx, (hb.cell (World.block_lt_of_cell? _ _ cy)).trans cy, (hb.cell (World.block_lt_of_cell? _ _ l0)).trans l0, (hb.cell (World.block_lt_of_cell? _ _ l1)).trans l1, (hb.cell (World.block_lt_of_cell? _ _ h0)).trans h0, (hb.cell (World.block_lt_of_cell? _ _ h1)).trans h1, (hb.cell (World.block_lt_of_cell? _ _ o0)).trans o0⟩
          have BB := Lib.hid (BB.out.trans (hb.mono z0)); have z0 := Nat.le_trans z0 hb.size; have R0 := Lib.hid ((hb.block _ hz).trans R0.out); have T0 := Lib.hid ((hb.block _ hz2).trans T0.out); clear hb hz hz2
          refine hK.out _ _ (hN) (fun hHeld2 => ?_)
          clear hK K hHeld
          have hHeld := hHeld2; clear hHeld2
          try simp only [Act.put, List.setIfInBounds_toArray, List.set_cons_zero, List.set_cons_succ]
          refine wpAnyH_ready (rs := [6]) (by kernel_rfl) (by simp) ?_
          refine AllReadyH.cons (o := _) rfl (fun K hK => ?_) AllReadyH.nil
          go_simp
          refine hK.out _ _ (hHeld) (fun hHeld2 => ?_)
          clear hK K hHeld
          have hHeld := hHeld2; clear hHeld2
          try simp only [Act.put, List.setIfInBounds_toArray, List.set_cons_zero, List.set_cons_succ]
          refine wpAnyH_ready (rs := [7]) (by kernel_rfl) (by simp) ?_
          refine AllReadyH.cons (o := _) rfl (fun K hK => ?_) AllReadyH.nil
          go_simp
          have hz := lt_of_block R0.out; have hz2 := lt_of_block T0.out
          refine (AR.out _ _ SH.out _ hHeld.1 hHeld.2.1 hHeld.2.2.1 hHeld.2.2.2.1).mono ?_
          rintro e u7 ⟨rfl, hb⟩
          have hN : u7.cell? ⟨g0, 0, none⟩ = some (.int .i64 px) ∧ u7.cell? ⟨g0, 1, none⟩ = some (.int .i64 py) ∧ u7.cell? ⟨gx, 0, none⟩ = some (.int .i64 (qx - px)) ∧ u7.cell? ⟨gy, 0, none⟩ = some (.int .i64 (qy - py)) ∧ u7.cell? ⟨g5, 0, none⟩ = some (.int .i64 ln) ∧ u7.cell? ⟨g5, 1, none⟩ = some (.int .i64 ld) ∧ u7.cell? ⟨g6, 0, none⟩ = some (.int .i64 hn) ∧ u7.cell? ⟨g6, 1, none⟩ = some (.int .i64 hd) ∧ u7.cell? ⟨g7, 0, none⟩ = some (.bool false) := by
            obtain ⟨c0, c1, cx, cy, l0, l1, h0, h1, o0⟩ := hHeld
            exact ⟨(hb.cell (World.block_lt_of_cell? _ _ c0)).trans c0, (hb.cell (World.block_lt_of_cell? _ _ c1)).trans c1, (hb.cell (World.block_lt_of_cell? _ _ cx)).trans cx, (hb.cell (World.block_lt_of_cell? _ _ cy)).trans cy, (hb.cell (World.block_lt_of_cell? _ _ l0)).trans l0, (hb.cell (World.block_lt_of_cell? _ _ l1)).trans l1, (hb.cell (World.block_lt_of_cell? _ _ h0)).trans h0, (hb.cell (World.block_lt_of_cell? _ _ h1)).trans h1, (hb.cell (World.block_lt_of_cell? _ _ o0)).trans o0⟩
          have BB := Lib.hid (BB.out.trans (hb.mono z0)); have z0 := Nat.le_trans z0 hb.size; have R0 := Lib.hid ((hb.block _ hz).trans R0.out); have T0 := Lib.hid ((hb.block _ hz2).trans T0.out); clear hb hz hz2
          refine hK.out _ _ (hN) (fun hHeld2 => ?_)
          clear hK K hHeld
          have hHeld := hHeld2; clear hHeld2
          try simp only [Act.put, List.setIfInBounds_toArray, List.set_cons_zero, List.set_cons_succ]
          refine wpAnyH_take (i := 9) (oi := _) (v := ?_) rfl (by kernel_rfl) (by kernel_rfl) (by kernel_rfl) (fun _ _ _ h => h) (Or.inl ⟨by rfl, ?_⟩) (by assumption) ?_
          rotate_left
          · intro w hSw; (try dsimp only at hSw); go_simp; all_goals (with_reducible rfl)
          try simp only [Act.put, List.setIfInBounds_toArray, List.set_cons_zero, List.set_cons_succ]
          refine wpAnyH_take (i := 10) (oi := _) (v := undef) rfl (by kernel_rfl) (by kernel_rfl) (by kernel_rfl) (fun _ _ _ h => h) (Or.inr ⟨?_, rfl⟩) (by assumption) ?_
          · simp [Region.wanted, yielded]
          try simp only [Act.put, List.setIfInBounds_toArray, List.set_cons_zero, List.set_cons_succ]
          refine wpAnyH_take (i := 11) (oi := _) (v := undef) rfl (by kernel_rfl) (by kernel_rfl) (by kernel_rfl) (fun _ _ _ h => h) (Or.inr ⟨?_, rfl⟩) (by assumption) ?_
          · simp [Region.wanted, yielded]
          try simp only [Act.put, List.setIfInBounds_toArray, List.set_cons_zero, List.set_cons_succ]
          refine wpAnyH_ready (rs := [12]) (by kernel_rfl) (by simp) ?_
          refine AllReadyH.cons (o := _) rfl (fun K hK => ?_) AllReadyH.nil
          go_simp
          refine hK.out _ _ (hHeld) (fun hHeld2 => ?_)
          clear hK K hHeld
          have hHeld := hHeld2; clear hHeld2
          try simp only [Act.put, List.setIfInBounds_toArray, List.set_cons_zero, List.set_cons_succ]
          refine wpAnyH_take (i := 13) (oi := _) (v := undef) rfl (by kernel_rfl) (by kernel_rfl) (by kernel_rfl) (fun _ _ _ h => h) (Or.inr ⟨?_, rfl⟩) (by assumption) ?_
          · simp [Region.wanted, yielded]
          try simp only [Act.put, List.setIfInBounds_toArray, List.set_cons_zero, List.set_cons_succ]
          refine wpAnyH_take (i := 14) (oi := _) (v := ?_) rfl (by kernel_rfl) (by kernel_rfl) (by kernel_rfl) (fun _ _ _ h => h) (Or.inl ⟨by rfl, ?_⟩) (by assumption) ?_
          rotate_left
          · intro w hSw; (try dsimp only at hSw); go_simp; all_goals (with_reducible rfl)
          try simp only [Act.put, List.setIfInBounds_toArray, List.set_cons_zero, List.set_cons_succ]
          obtain ⟨r0, r1⟩ := cell_two R0.out; have rf0 := free_blk R0.out 0; have rf1 := free_blk R0.out 1
          refine wpAnyH_ready (rs := [15]) (by kernel_rfl) (by simp) ?_
          refine AllReadyH.cons (o := _) rfl (fun K hK => ?_) AllReadyH.nil
          go_simp
          have R1 : Hid (((u7.setCell ⟨g3, 0, none⟩ (.int .i64 (px + Cl.rround ⟨ln, ld⟩ (qx - px)))).setCell ⟨g3, 1, none⟩ (.int .i64 (py + Cl.rround ⟨ln, ld⟩ (qy - py)))).heap[g3]? = _) := Lib.hid (set_two R0.out (.int .i64 (px + Cl.rround ⟨ln, ld⟩ (qx - px))) (.int .i64 (py + Cl.rround ⟨ln, ld⟩ (qy - py)))); have T1 : Hid (((u7.setCell ⟨g3, 0, none⟩ (.int .i64 (px + Cl.rround ⟨ln, ld⟩ (qx - px)))).setCell ⟨g3, 1, none⟩ (.int .i64 (py + Cl.rround ⟨ln, ld⟩ (qy - py)))).heap[g4]? = _) := Lib.hid ((blk_two u7 g3 g4 (.int .i64 (px + Cl.rround ⟨ln, ld⟩ (qx - px))) (.int .i64 (py + Cl.rround ⟨ln, ld⟩ (qy - py))) (Ne.symm neg3g4)).trans T0.out)
          have BB1 : Hid (Below g0 w ((u7.setCell ⟨g3, 0, none⟩ (.int .i64 (px + Cl.rround ⟨ln, ld⟩ (qx - px)))).setCell ⟨g3, 1, none⟩ (.int .i64 (py + Cl.rround ⟨ln, ld⟩ (qy - py))))) := Lib.hid ((BB.out.setCell (by simp; omega) _).setCell (by simp; omega) _)
          refine hK.out _ _ (by obtain ⟨c0, c1, cx, cy, l0, l1, h0, h1, o0⟩ := hHeld; exact ⟨((cell_far _ _ _ _ neg0g3).trans (cell_far _ _ _ _ neg0g3)).trans c0, ((cell_far _ _ _ _ neg0g3).trans (cell_far _ _ _ _ neg0g3)).trans c1, ((cell_far _ _ _ _ negxg3).trans (cell_far _ _ _ _ negxg3)).trans cx, ((cell_far _ _ _ _ negyg3).trans (cell_far _ _ _ _ negyg3)).trans cy, ((cell_far _ _ _ _ neg5g3).trans (cell_far _ _ _ _ neg5g3)).trans l0, ((cell_far _ _ _ _ neg5g3).trans (cell_far _ _ _ _ neg5g3)).trans l1, ((cell_far _ _ _ _ neg6g3).trans (cell_far _ _ _ _ neg6g3)).trans h0, ((cell_far _ _ _ _ neg6g3).trans (cell_far _ _ _ _ neg6g3)).trans h1, ((cell_far _ _ _ _ neg7g3).trans (cell_far _ _ _ _ neg7g3)).trans o0⟩) (fun hHeld2 => ?_)
          clear hK K hHeld
          have hHeld := hHeld2; clear hHeld2
          try simp only [Act.put, List.setIfInBounds_toArray, List.set_cons_zero, List.set_cons_succ]
          clear r0 r1 rf0 rf1 R0 T0 BB
          generalize ((u7.setCell ⟨g3, 0, none⟩ (.int .i64 (px + Cl.rround ⟨ln, ld⟩ (qx - px)))).setCell ⟨g3, 1, none⟩ (.int .i64 (py + Cl.rround ⟨ln, ld⟩ (qy - py)))) = v15 at *
          have R0 := R1; have T0 := T1; have BB := BB1; clear R1 T1 BB1
          obtain ⟨r0, r1⟩ := cell_two T0.out; have rf0 := free_blk T0.out 0; have rf1 := free_blk T0.out 1
          refine wpAnyH_ready (rs := [16]) (by kernel_rfl) (by simp) ?_
          refine AllReadyH.cons (o := _) rfl (fun K hK => ?_) AllReadyH.nil
          go_simp
          have R1 : Hid (((v15.setCell ⟨g4, 0, none⟩ (.int .i64 (px + Cl.rround ⟨hn, hd⟩ (qx - px)))).setCell ⟨g4, 1, none⟩ (.int .i64 (py + Cl.rround ⟨hn, hd⟩ (qy - py)))).heap[g4]? = _) := Lib.hid (set_two T0.out (.int .i64 (px + Cl.rround ⟨hn, hd⟩ (qx - px))) (.int .i64 (py + Cl.rround ⟨hn, hd⟩ (qy - py)))); have T1 : Hid (((v15.setCell ⟨g4, 0, none⟩ (.int .i64 (px + Cl.rround ⟨hn, hd⟩ (qx - px)))).setCell ⟨g4, 1, none⟩ (.int .i64 (py + Cl.rround ⟨hn, hd⟩ (qy - py)))).heap[g3]? = _) := Lib.hid ((blk_two v15 g4 g3 (.int .i64 (px + Cl.rround ⟨hn, hd⟩ (qx - px))) (.int .i64 (py + Cl.rround ⟨hn, hd⟩ (qy - py))) neg3g4).trans R0.out)
          have BB1 : Hid (Below g0 w ((v15.setCell ⟨g4, 0, none⟩ (.int .i64 (px + Cl.rround ⟨hn, hd⟩ (qx - px)))).setCell ⟨g4, 1, none⟩ (.int .i64 (py + Cl.rround ⟨hn, hd⟩ (qy - py))))) := Lib.hid ((BB.out.setCell (by simp; omega) _).setCell (by simp; omega) _)
          refine hK.out _ _ (by obtain ⟨c0, c1, cx, cy, l0, l1, h0, h1, o0⟩ := hHeld; exact ⟨((cell_far _ _ _ _ neg0g4).trans (cell_far _ _ _ _ neg0g4)).trans c0, ((cell_far _ _ _ _ neg0g4).trans (cell_far _ _ _ _ neg0g4)).trans c1, ((cell_far _ _ _ _ negxg4).trans (cell_far _ _ _ _ negxg4)).trans cx, ((cell_far _ _ _ _ negyg4).trans (cell_far _ _ _ _ negyg4)).trans cy, ((cell_far _ _ _ _ neg5g4).trans (cell_far _ _ _ _ neg5g4)).trans l0, ((cell_far _ _ _ _ neg5g4).trans (cell_far _ _ _ _ neg5g4)).trans l1, ((cell_far _ _ _ _ neg6g4).trans (cell_far _ _ _ _ neg6g4)).trans h0, ((cell_far _ _ _ _ neg6g4).trans (cell_far _ _ _ _ neg6g4)).trans h1, ((cell_far _ _ _ _ neg7g4).trans (cell_far _ _ _ _ neg7g4)).trans o0⟩) (fun hHeld2 => ?_)
          clear hK K hHeld
          have hHeld := hHeld2; clear hHeld2
          try simp only [Act.put, List.setIfInBounds_toArray, List.set_cons_zero, List.set_cons_succ]
          clear r0 r1 rf0 rf1 R0 T0 BB
          generalize ((v15.setCell ⟨g4, 0, none⟩ (.int .i64 (px + Cl.rround ⟨hn, hd⟩ (qx - px)))).setCell ⟨g4, 1, none⟩ (.int .i64 (py + Cl.rround ⟨hn, hd⟩ (qy - py)))) = v16 at *
          have T0 := R1; have R0 := T1; have BB := BB1; clear R1 T1 BB1
          refine wpAnyH_ready (rs := [17]) (by kernel_rfl) (by simp) ?_
          refine AllReadyH.cons (o := _) rfl (fun K hK => ?_) AllReadyH.nil
          go_simp
          refine hK.out _ _ (hHeld) (fun hHeld2 => ?_)
          clear hK K hHeld
          have hHeld := hHeld2; clear hHeld2
          try simp only [Act.put, List.setIfInBounds_toArray, List.set_cons_zero, List.set_cons_succ]
          refine wpAnyH_done (by kernel_rfl) ?_ _
          refine NoPanic.normal ?_
          go_wp2
          obtain ⟨r0, r1⟩ := cell_two R0.out; obtain ⟨t0, t1⟩ := cell_two T0.out
          refine bodyPost_ret (v := .tuple #[.agg #[.int .i64 (px + Cl.rround ⟨ln, ld⟩ (qx - px)), .int .i64 (py + Cl.rround ⟨ln, ld⟩ (qy - py))], .agg #[.int .i64 (px + Cl.rround ⟨hn, hd⟩ (qx - px)), .int .i64 (py + Cl.rround ⟨hn, hd⟩ (qy - py))], .bool false]) (by simp [results, Try.results29, go_sem, r0, r1, t0, t1]) rfl ⟨?_, ?_⟩
          · rw [HPA.out, HPB.out, HOK.out]; rfl
          · have := hw0.out; subst this; exact BB.out
        · skip
          go_simp
          refine hK.out _ _ (hHeld) (fun hHeld2 => ?_)
          clear hK K hHeld
          have hHeld := hHeld2; clear hHeld2
          try simp only [Act.put, List.setIfInBounds_toArray, List.set_cons_zero, List.set_cons_succ]
          refine wpAnyH_ready (rs := [3]) (by kernel_rfl) (by simp) ?_
          refine AllReadyH.cons (o := _) rfl (fun K hK => ?_) AllReadyH.nil
          go_simp
          have hz := lt_of_block R0.out; have hz2 := lt_of_block T0.out
          refine (AR.out _ _ SL.out _ hHeld.1 hHeld.2.1 hHeld.2.2.1 hHeld.2.2.2.1).mono ?_
          rintro e u3 ⟨rfl, hb⟩
          have hN : u3.cell? ⟨g0, 0, none⟩ = some (.int .i64 px) ∧ u3.cell? ⟨g0, 1, none⟩ = some (.int .i64 py) ∧ u3.cell? ⟨gx, 0, none⟩ = some (.int .i64 (qx - px)) ∧ u3.cell? ⟨gy, 0, none⟩ = some (.int .i64 (qy - py)) ∧ u3.cell? ⟨g5, 0, none⟩ = some (.int .i64 ln) ∧ u3.cell? ⟨g5, 1, none⟩ = some (.int .i64 ld) ∧ u3.cell? ⟨g6, 0, none⟩ = some (.int .i64 hn) ∧ u3.cell? ⟨g6, 1, none⟩ = some (.int .i64 hd) ∧ u3.cell? ⟨g7, 0, none⟩ = some (.bool false) := by
            obtain ⟨c0, c1, cx, cy, l0, l1, h0, h1, o0⟩ := hHeld
            exact ⟨(hb.cell (World.block_lt_of_cell? _ _ c0)).trans c0, (hb.cell (World.block_lt_of_cell? _ _ c1)).trans c1, (hb.cell (World.block_lt_of_cell? _ _ cx)).trans cx, (hb.cell (World.block_lt_of_cell? _ _ cy)).trans cy, (hb.cell (World.block_lt_of_cell? _ _ l0)).trans l0, (hb.cell (World.block_lt_of_cell? _ _ l1)).trans l1, (hb.cell (World.block_lt_of_cell? _ _ h0)).trans h0, (hb.cell (World.block_lt_of_cell? _ _ h1)).trans h1, (hb.cell (World.block_lt_of_cell? _ _ o0)).trans o0⟩
          have BB := Lib.hid (BB.out.trans (hb.mono z0)); have z0 := Nat.le_trans z0 hb.size; have R0 := Lib.hid ((hb.block _ hz).trans R0.out); have T0 := Lib.hid ((hb.block _ hz2).trans T0.out); clear hb hz hz2
          refine hK.out _ _ (hN) (fun hHeld2 => ?_)
          clear hK K hHeld
          have hHeld := hHeld2; clear hHeld2
          try simp only [Act.put, List.setIfInBounds_toArray, List.set_cons_zero, List.set_cons_succ]
          refine wpAnyH_ready (rs := [7]) (by kernel_rfl) (by simp) ?_
          refine AllReadyH.cons (o := _) rfl (fun K hK => ?_) AllReadyH.nil
          go_simp
          have hz := lt_of_block R0.out; have hz2 := lt_of_block T0.out
          refine (AR.out _ _ SH.out _ hHeld.1 hHeld.2.1 hHeld.2.2.1 hHeld.2.2.2.1).mono ?_
          rintro e u7 ⟨rfl, hb⟩
          have hN : u7.cell? ⟨g0, 0, none⟩ = some (.int .i64 px) ∧ u7.cell? ⟨g0, 1, none⟩ = some (.int .i64 py) ∧ u7.cell? ⟨gx, 0, none⟩ = some (.int .i64 (qx - px)) ∧ u7.cell? ⟨gy, 0, none⟩ = some (.int .i64 (qy - py)) ∧ u7.cell? ⟨g5, 0, none⟩ = some (.int .i64 ln) ∧ u7.cell? ⟨g5, 1, none⟩ = some (.int .i64 ld) ∧ u7.cell? ⟨g6, 0, none⟩ = some (.int .i64 hn) ∧ u7.cell? ⟨g6, 1, none⟩ = some (.int .i64 hd) ∧ u7.cell? ⟨g7, 0, none⟩ = some (.bool false) := by
            obtain ⟨c0, c1, cx, cy, l0, l1, h0, h1, o0⟩ := hHeld
            exact ⟨(hb.cell (World.block_lt_of_cell? _ _ c0)).trans c0, (hb.cell (World.block_lt_of_cell? _ _ c1)).trans c1, (hb.cell (World.block_lt_of_cell? _ _ cx)).trans cx, (hb.cell (World.block_lt_of_cell? _ _ cy)).trans cy, (hb.cell (World.block_lt_of_cell? _ _ l0)).trans l0, (hb.cell (World.block_lt_of_cell? _ _ l1)).trans l1, (hb.cell (World.block_lt_of_cell? _ _ h0)).trans h0, (hb.cell (World.block_lt_of_cell? _ _ h1)).trans h1, (hb.cell (World.block_lt_of_cell? _ _ o0)).trans o0⟩
          have BB := Lib.hid (BB.out.trans (hb.mono z0)); have z0 := Nat.le_trans z0 hb.size; have R0 := Lib.hid ((hb.block _ hz).trans R0.out); have T0 := Lib.hid ((hb.block _ hz2).trans T0.out); clear hb hz hz2
          refine hK.out _ _ (hN) (fun hHeld2 => ?_)
          clear hK K hHeld
          have hHeld := hHeld2; clear hHeld2
          try simp only [Act.put, List.setIfInBounds_toArray, List.set_cons_zero, List.set_cons_succ]
          refine wpAnyH_take (i := 9) (oi := _) (v := ?_) rfl (by kernel_rfl) (by kernel_rfl) (by kernel_rfl) (fun _ _ _ h => h) (Or.inl ⟨by rfl, ?_⟩) (by assumption) ?_
          rotate_left
          · intro w hSw; (try dsimp only at hSw); go_simp; all_goals (with_reducible rfl)
          try simp only [Act.put, List.setIfInBounds_toArray, List.set_cons_zero, List.set_cons_succ]
          refine wpAnyH_take (i := 10) (oi := _) (v := undef) rfl (by kernel_rfl) (by kernel_rfl) (by kernel_rfl) (fun _ _ _ h => h) (Or.inr ⟨?_, rfl⟩) (by assumption) ?_
          · simp [Region.wanted, yielded]
          try simp only [Act.put, List.setIfInBounds_toArray, List.set_cons_zero, List.set_cons_succ]
          refine wpAnyH_take (i := 11) (oi := _) (v := undef) rfl (by kernel_rfl) (by kernel_rfl) (by kernel_rfl) (fun _ _ _ h => h) (Or.inr ⟨?_, rfl⟩) (by assumption) ?_
          · simp [Region.wanted, yielded]
          try simp only [Act.put, List.setIfInBounds_toArray, List.set_cons_zero, List.set_cons_succ]
          refine wpAnyH_ready (rs := [12]) (by kernel_rfl) (by simp) ?_
          refine AllReadyH.cons (o := _) rfl (fun K hK => ?_) AllReadyH.nil
          go_simp
          refine hK.out _ _ (hHeld) (fun hHeld2 => ?_)
          clear hK K hHeld
          have hHeld := hHeld2; clear hHeld2
          try simp only [Act.put, List.setIfInBounds_toArray, List.set_cons_zero, List.set_cons_succ]
          refine wpAnyH_take (i := 13) (oi := _) (v := undef) rfl (by kernel_rfl) (by kernel_rfl) (by kernel_rfl) (fun _ _ _ h => h) (Or.inr ⟨?_, rfl⟩) (by assumption) ?_
          · simp [Region.wanted, yielded]
          try simp only [Act.put, List.setIfInBounds_toArray, List.set_cons_zero, List.set_cons_succ]
          refine wpAnyH_take (i := 14) (oi := _) (v := ?_) rfl (by kernel_rfl) (by kernel_rfl) (by kernel_rfl) (fun _ _ _ h => h) (Or.inl ⟨by rfl, ?_⟩) (by assumption) ?_
          rotate_left
          · intro w hSw; (try dsimp only at hSw); go_simp; all_goals (with_reducible rfl)
          try simp only [Act.put, List.setIfInBounds_toArray, List.set_cons_zero, List.set_cons_succ]
          obtain ⟨r0, r1⟩ := cell_two R0.out; have rf0 := free_blk R0.out 0; have rf1 := free_blk R0.out 1
          refine wpAnyH_ready (rs := [15]) (by kernel_rfl) (by simp) ?_
          refine AllReadyH.cons (o := _) rfl (fun K hK => ?_) AllReadyH.nil
          go_simp
          have R1 : Hid (((u7.setCell ⟨g3, 0, none⟩ (.int .i64 (px + Cl.rround ⟨ln, ld⟩ (qx - px)))).setCell ⟨g3, 1, none⟩ (.int .i64 (py + Cl.rround ⟨ln, ld⟩ (qy - py)))).heap[g3]? = _) := Lib.hid (set_two R0.out (.int .i64 (px + Cl.rround ⟨ln, ld⟩ (qx - px))) (.int .i64 (py + Cl.rround ⟨ln, ld⟩ (qy - py)))); have T1 : Hid (((u7.setCell ⟨g3, 0, none⟩ (.int .i64 (px + Cl.rround ⟨ln, ld⟩ (qx - px)))).setCell ⟨g3, 1, none⟩ (.int .i64 (py + Cl.rround ⟨ln, ld⟩ (qy - py)))).heap[g4]? = _) := Lib.hid ((blk_two u7 g3 g4 (.int .i64 (px + Cl.rround ⟨ln, ld⟩ (qx - px))) (.int .i64 (py + Cl.rround ⟨ln, ld⟩ (qy - py))) (Ne.symm neg3g4)).trans T0.out)
          have BB1 : Hid (Below g0 w ((u7.setCell ⟨g3, 0, none⟩ (.int .i64 (px + Cl.rround ⟨ln, ld⟩ (qx - px)))).setCell ⟨g3, 1, none⟩ (.int .i64 (py + Cl.rround ⟨ln, ld⟩ (qy - py))))) := Lib.hid ((BB.out.setCell (by simp; omega) _).setCell (by simp; omega) _)
          refine hK.out _ _ (by obtain ⟨c0, c1, cx, cy, l0, l1, h0, h1, o0⟩ := hHeld; exact ⟨((cell_far _ _ _ _ neg0g3).trans (cell_far _ _ _ _ neg0g3)).trans c0, ((cell_far _ _ _ _ neg0g3).trans (cell_far _ _ _ _ neg0g3)).trans c1, ((cell_far _ _ _ _ negxg3).trans (cell_far _ _ _ _ negxg3)).trans cx, ((cell_far _ _ _ _ negyg3).trans (cell_far _ _ _ _ negyg3)).trans cy, ((cell_far _ _ _ _ neg5g3).trans (cell_far _ _ _ _ neg5g3)).trans l0, ((cell_far _ _ _ _ neg5g3).trans (cell_far _ _ _ _ neg5g3)).trans l1, ((cell_far _ _ _ _ neg6g3).trans (cell_far _ _ _ _ neg6g3)).trans h0, ((cell_far _ _ _ _ neg6g3).trans (cell_far _ _ _ _ neg6g3)).trans h1, ((cell_far _ _ _ _ neg7g3).trans (cell_far _ _ _ _ neg7g3)).trans o0⟩) (fun hHeld2 => ?_)
          clear hK K hHeld
          have hHeld := hHeld2; clear hHeld2
          try simp only [Act.put, List.setIfInBounds_toArray, List.set_cons_zero, List.set_cons_succ]
          clear r0 r1 rf0 rf1 R0 T0 BB
          generalize ((u7.setCell ⟨g3, 0, none⟩ (.int .i64 (px + Cl.rround ⟨ln, ld⟩ (qx - px)))).setCell ⟨g3, 1, none⟩ (.int .i64 (py + Cl.rround ⟨ln, ld⟩ (qy - py)))) = v15 at *
          have R0 := R1; have T0 := T1; have BB := BB1; clear R1 T1 BB1
          obtain ⟨r0, r1⟩ := cell_two T0.out; have rf0 := free_blk T0.out 0; have rf1 := free_blk T0.out 1
          refine wpAnyH_ready (rs := [16]) (by kernel_rfl) (by simp) ?_
          refine AllReadyH.cons (o := _) rfl (fun K hK => ?_) AllReadyH.nil
          go_simp
          have R1 : Hid (((v15.setCell ⟨g4, 0, none⟩ (.int .i64 (px + Cl.rround ⟨hn, hd⟩ (qx - px)))).setCell ⟨g4, 1, none⟩ (.int .i64 (py + Cl.rround ⟨hn, hd⟩ (qy - py)))).heap[g4]? = _) := Lib.hid (set_two T0.out (.int .i64 (px + Cl.rround ⟨hn, hd⟩ (qx - px))) (.int .i64 (py + Cl.rround ⟨hn, hd⟩ (qy - py)))); have T1 : Hid (((v15.setCell ⟨g4, 0, none⟩ (.int .i64 (px + Cl.rround ⟨hn, hd⟩ (qx - px)))).setCell ⟨g4, 1, none⟩ (.int .i64 (py + Cl.rround ⟨hn, hd⟩ (qy - py)))).heap[g3]? = _) := Lib.hid ((blk_two v15 g4 g3 (.int .i64 (px + Cl.rround ⟨hn, hd⟩ (qx - px))) (.int .i64 (py + Cl.rround ⟨hn, hd⟩ (qy - py))) neg3g4).trans R0.out)
          have BB1 : Hid (Below g0 w ((v15.setCell ⟨g4, 0, none⟩ (.int .i64 (px + Cl.rround ⟨hn, hd⟩ (qx - px)))).setCell ⟨g4, 1, none⟩ (.int .i64 (py + Cl.rround ⟨hn, hd⟩ (qy - py))))) := Lib.hid ((BB.out.setCell (by simp; omega) _).setCell (by simp; omega) _)
          refine hK.out _ _ (by obtain ⟨c0, c1, cx, cy, l0, l1, h0, h1, o0⟩ := hHeld; exact ⟨((cell_far _ _ _ _ neg0g4).trans (cell_far _ _ _ _ neg0g4)).trans c0, ((cell_far _ _ _ _ neg0g4).trans (cell_far _ _ _ _ neg0g4)).trans c1, ((cell_far _ _ _ _ negxg4).trans (cell_far _ _ _ _ negxg4)).trans cx, ((cell_far _ _ _ _ negyg4).trans (cell_far _ _ _ _ negyg4)).trans cy, ((cell_far _ _ _ _ neg5g4).trans (cell_far _ _ _ _ neg5g4)).trans l0, ((cell_far _ _ _ _ neg5g4).trans (cell_far _ _ _ _ neg5g4)).trans l1, ((cell_far _ _ _ _ neg6g4).trans (cell_far _ _ _ _ neg6g4)).trans h0, ((cell_far _ _ _ _ neg6g4).trans (cell_far _ _ _ _ neg6g4)).trans h1, ((cell_far _ _ _ _ neg7g4).trans (cell_far _ _ _ _ neg7g4)).trans o0⟩) (fun hHeld2 => ?_)
          clear hK K hHeld
          have hHeld := hHeld2; clear hHeld2
          try simp only [Act.put, List.setIfInBounds_toArray, List.set_cons_zero, List.set_cons_succ]
          clear r0 r1 rf0 rf1 R0 T0 BB
          generalize ((v15.setCell ⟨g4, 0, none⟩ (.int .i64 (px + Cl.rround ⟨hn, hd⟩ (qx - px)))).setCell ⟨g4, 1, none⟩ (.int .i64 (py + Cl.rround ⟨hn, hd⟩ (qy - py)))) = v16 at *
          have T0 := R1; have R0 := T1; have BB := BB1; clear R1 T1 BB1
          refine wpAnyH_ready (rs := [17]) (by kernel_rfl) (by simp) ?_
          refine AllReadyH.cons (o := _) rfl (fun K hK => ?_) AllReadyH.nil
          go_simp
          refine hK.out _ _ (hHeld) (fun hHeld2 => ?_)
          clear hK K hHeld
          have hHeld := hHeld2; clear hHeld2
          try simp only [Act.put, List.setIfInBounds_toArray, List.set_cons_zero, List.set_cons_succ]
          refine wpAnyH_done (by kernel_rfl) ?_ _
          refine NoPanic.normal ?_
          go_wp2
          obtain ⟨r0, r1⟩ := cell_two R0.out; obtain ⟨t0, t1⟩ := cell_two T0.out
          refine bodyPost_ret (v := .tuple #[.agg #[.int .i64 (px + Cl.rround ⟨ln, ld⟩ (qx - px)), .int .i64 (py + Cl.rround ⟨ln, ld⟩ (qy - py))], .agg #[.int .i64 (px + Cl.rround ⟨hn, hd⟩ (qx - px)), .int .i64 (py + Cl.rround ⟨hn, hd⟩ (qy - py))], .bool false]) (by simp [results, Try.results29, go_sem, r0, r1, t0, t1]) rfl ⟨?_, ?_⟩
          · rw [HPA.out, HPB.out, HOK.out]; rfl
          · have := hw0.out; subst this; exact BB.out
      · skip
        go_simp
        refine hK.out _ _ (hHeld) (fun hHeld2 => ?_)
        clear hK K hHeld
        have hHeld := hHeld2; clear hHeld2
        try simp only [Act.put, List.setIfInBounds_toArray, List.set_cons_zero, List.set_cons_succ]
        refine wpAnyH_ready (rs := [2]) (by kernel_rfl) (by simp) ?_
        refine AllReadyH.cons (o := _) rfl (fun K hK => ?_) AllReadyH.nil
        go_simp
        refine hK.out _ _ (hHeld) (fun hHeld2 => ?_)
        clear hK K hHeld
        have hHeld := hHeld2; clear hHeld2
        try simp only [Act.put, List.setIfInBounds_toArray, List.set_cons_zero, List.set_cons_succ]
        refine wpAnyH_ready (rs := [3]) (by kernel_rfl) (by simp) ?_
        refine AllReadyH.cons (o := _) rfl (fun K hK => ?_) AllReadyH.nil
        go_simp
        have hz := lt_of_block R0.out; have hz2 := lt_of_block T0.out
        refine (AR.out _ _ SL.out _ hHeld.1 hHeld.2.1 hHeld.2.2.1 hHeld.2.2.2.1).mono ?_
        rintro e u3 ⟨rfl, hb⟩
        have hN : u3.cell? ⟨g0, 0, none⟩ = some (.int .i64 px) ∧ u3.cell? ⟨g0, 1, none⟩ = some (.int .i64 py) ∧ u3.cell? ⟨gx, 0, none⟩ = some (.int .i64 (qx - px)) ∧ u3.cell? ⟨gy, 0, none⟩ = some (.int .i64 (qy - py)) ∧ u3.cell? ⟨g5, 0, none⟩ = some (.int .i64 ln) ∧ u3.cell? ⟨g5, 1, none⟩ = some (.int .i64 ld) ∧ u3.cell? ⟨g6, 0, none⟩ = some (.int .i64 hn) ∧ u3.cell? ⟨g6, 1, none⟩ = some (.int .i64 hd) ∧ u3.cell? ⟨g7, 0, none⟩ = some (.bool false) := by
          obtain ⟨c0, c1, cx, cy, l0, l1, h0, h1, o0⟩ := hHeld
          exact ⟨(hb.cell (World.block_lt_of_cell? _ _ c0)).trans c0, (hb.cell (World.block_lt_of_cell? _ _ c1)).trans c1, (hb.cell (World.block_lt_of_cell? _ _ cx)).trans cx, (hb.cell (World.block_lt_of_cell? _ _ cy)).trans cy, (hb.cell (World.block_lt_of_cell? _ _ l0)).trans l0, (hb.cell (World.block_lt_of_cell? _ _ l1)).trans l1, (hb.cell (World.block_lt_of_cell? _ _ h0)).trans h0, (hb.cell (World.block_lt_of_cell? _ _ h1)).trans h1, (hb.cell (World.block_lt_of_cell? _ _ o0)).trans o0⟩
        have BB := Lib.hid (BB.out.trans (hb.mono z0)); have z0 := Nat.le_trans z0 hb.size; have R0 := Lib.hid ((hb.block _ hz).trans R0.out); have T0 := Lib.hid ((hb.block _ hz2).trans T0.out); clear hb hz hz2
        refine hK.out _ _ (hN) (fun hHeld2 => ?_)
        clear hK K hHeld
        have hHeld := hHeld2; clear hHeld2
        try simp only [Act.put, List.setIfInBounds_toArray, List.set_cons_zero, List.set_cons_succ]
        refine wpAnyH_ready (rs := [7]) (by kernel_rfl) (by simp) ?_
        refine AllReadyH.cons (o := _) rfl (fun K hK => ?_) AllReadyH.nil
        go_simp
        have hz := lt_of_block R0.out; have hz2 := lt_of_block T0.out
        refine (AR.out _ _ SH.out _ hHeld.1 hHeld.2.1 hHeld.2.2.1 hHeld.2.2.2.1).mono ?_
        rintro e u7 ⟨rfl, hb⟩
        have hN : u7.cell? ⟨g0, 0, none⟩ = some (.int .i64 px) ∧ u7.cell? ⟨g0, 1, none⟩ = some (.int .i64 py) ∧ u7.cell? ⟨gx, 0, none⟩ = some (.int .i64 (qx - px)) ∧ u7.cell? ⟨gy, 0, none⟩ = some (.int .i64 (qy - py)) ∧ u7.cell? ⟨g5, 0, none⟩ = some (.int .i64 ln) ∧ u7.cell? ⟨g5, 1, none⟩ = some (.int .i64 ld) ∧ u7.cell? ⟨g6, 0, none⟩ = some (.int .i64 hn) ∧ u7.cell? ⟨g6, 1, none⟩ = some (.int .i64 hd) ∧ u7.cell? ⟨g7, 0, none⟩ = some (.bool false) := by
          obtain ⟨c0, c1, cx, cy, l0, l1, h0, h1, o0⟩ := hHeld
          exact ⟨(hb.cell (World.block_lt_of_cell? _ _ c0)).trans c0, (hb.cell (World.block_lt_of_cell? _ _ c1)).trans c1, (hb.cell (World.block_lt_of_cell? _ _ cx)).trans cx, (hb.cell (World.block_lt_of_cell? _ _ cy)).trans cy, (hb.cell (World.block_lt_of_cell? _ _ l0)).trans l0, (hb.cell (World.block_lt_of_cell? _ _ l1)).trans l1, (hb.cell (World.block_lt_of_cell? _ _ h0)).trans h0, (hb.cell (World.block_lt_of_cell? _ _ h1)).trans h1, (hb.cell (World.block_lt_of_cell? _ _ o0)).trans o0⟩
        have BB := Lib.hid (BB.out.trans (hb.mono z0)); have z0 := Nat.le_trans z0 hb.size; have R0 := Lib.hid ((hb.block _ hz).trans R0.out); have T0 := Lib.hid ((hb.block _ hz2).trans T0.out); clear hb hz hz2
        refine hK.out _ _ (hN) (fun hHeld2 => ?_)
        clear hK K hHeld
        have hHeld := hHeld2; clear hHeld2
        try simp only [Act.put, List.setIfInBounds_toArray, List.set_cons_zero, List.set_cons_succ]
        refine wpAnyH_take (i := 9) (oi := _) (v := ?_) rfl (by kernel_rfl) (by kernel_rfl) (by kernel_rfl) (fun _ _ _ h => h) (Or.inl ⟨by rfl, ?_⟩) (by assumption) ?_
        rotate_left
        · intro w hSw; (try dsimp only at hSw); go_simp; all_goals (with_reducible rfl)
        try simp only [Act.put, List.setIfInBounds_toArray, List.set_cons_zero, List.set_cons_succ]
        refine wpAnyH_take (i := 10) (oi := _) (v := undef) rfl (by kernel_rfl) (by kernel_rfl) (by kernel_rfl) (fun _ _ _ h => h) (Or.inr ⟨?_, rfl⟩) (by assumption) ?_
        · simp [Region.wanted, yielded]
        try simp only [Act.put, List.setIfInBounds_toArray, List.set_cons_zero, List.set_cons_succ]
        refine wpAnyH_take (i := 11) (oi := _) (v := undef) rfl (by kernel_rfl) (by kernel_rfl) (by kernel_rfl) (fun _ _ _ h => h) (Or.inr ⟨?_, rfl⟩) (by assumption) ?_
        · simp [Region.wanted, yielded]
        try simp only [Act.put, List.setIfInBounds_toArray, List.set_cons_zero, List.set_cons_succ]
        refine wpAnyH_ready (rs := [12]) (by kernel_rfl) (by simp) ?_
        refine AllReadyH.cons (o := _) rfl (fun K hK => ?_) AllReadyH.nil
        go_simp
        refine hK.out _ _ (hHeld) (fun hHeld2 => ?_)
        clear hK K hHeld
        have hHeld := hHeld2; clear hHeld2
        try simp only [Act.put, List.setIfInBounds_toArray, List.set_cons_zero, List.set_cons_succ]
        refine wpAnyH_take (i := 13) (oi := _) (v := undef) rfl (by kernel_rfl) (by kernel_rfl) (by kernel_rfl) (fun _ _ _ h => h) (Or.inr ⟨?_, rfl⟩) (by assumption) ?_
        · simp [Region.wanted, yielded]
        try simp only [Act.put, List.setIfInBounds_toArray, List.set_cons_zero, List.set_cons_succ]
        refine wpAnyH_take (i := 14) (oi := _) (v := ?_) rfl (by kernel_rfl) (by kernel_rfl) (by kernel_rfl) (fun _ _ _ h => h) (Or.inl ⟨by rfl, ?_⟩) (by assumption) ?_
        rotate_left
        · intro w hSw; (try dsimp only at hSw); go_simp; all_goals (with_reducible rfl)
        try simp only [Act.put, List.setIfInBounds_toArray, List.set_cons_zero, List.set_cons_succ]
        obtain ⟨r0, r1⟩ := cell_two R0.out; have rf0 := free_blk R0.out 0; have rf1 := free_blk R0.out 1
        refine wpAnyH_ready (rs := [15]) (by kernel_rfl) (by simp) ?_
        refine AllReadyH.cons (o := _) rfl (fun K hK => ?_) AllReadyH.nil
        go_simp
        have R1 : Hid (((u7.setCell ⟨g3, 0, none⟩ (.int .i64 (px + Cl.rround ⟨ln, ld⟩ (qx - px)))).setCell ⟨g3, 1, none⟩ (.int .i64 (py + Cl.rround ⟨ln, ld⟩ (qy - py)))).heap[g3]? = _) := Lib.hid (set_two R0.out (.int .i64 (px + Cl.rround ⟨ln, ld⟩ (qx - px))) (.int .i64 (py + Cl.rround ⟨ln, ld⟩ (qy - py)))); have T1 : Hid (((u7.setCell ⟨g3, 0, none⟩ (.int .i64 (px + Cl.rround ⟨ln, ld⟩ (qx - px)))).setCell ⟨g3, 1, none⟩ (.int .i64 (py + Cl.rround ⟨ln, ld⟩ (qy - py)))).heap[g4]? = _) := Lib.hid ((blk_two u7 g3 g4 (.int .i64 (px + Cl.rround ⟨ln, ld⟩ (qx - px))) (.int .i64 (py + Cl.rround ⟨ln, ld⟩ (qy - py))) (Ne.symm neg3g4)).trans T0.out)
        have BB1 : Hid (Below g0 w ((u7.setCell ⟨g3, 0, none⟩ (.int .i64 (px + Cl.rround ⟨ln, ld⟩ (qx - px)))).setCell ⟨g3, 1, none⟩ (.int .i64 (py + Cl.rround ⟨ln, ld⟩ (qy - py))))) := Lib.hid ((BB.out.setCell (by simp; omega) _).setCell (by simp; omega) _)
        refine hK.out _ _ (by obtain ⟨c0, c1, cx, cy, l0, l1, h0, h1, o0⟩ := hHeld; exact ⟨((cell_far _ _ _ _ neg0g3).trans (cell_far _ _ _ _ neg0g3)).trans c0, ((cell_far _ _ _ _ neg0g3).trans (cell_far _ _ _ _ neg0g3)).trans c1, ((cell_far _ _ _ _ negxg3).trans (cell_far _ _ _ _ negxg3)).trans cx, ((cell_far _ _ _ _ negyg3).trans (cell_far _ _ _ _ negyg3)).trans cy, ((cell_far _ _ _ _ neg5g3).trans (cell_far _ _ _ _ neg5g3)).trans l0, ((cell_far _ _ _ _ neg5g3).trans (cell_far _ _ _ _ neg5g3)).trans l1, ((cell_far _ _ _ _ neg6g3).trans (cell_far _ _ _ _ neg6g3)).trans h0, ((cell_far _ _ _ _ neg6g3).trans (cell_far _ _ _ _ neg6g3)).trans h1, ((cell_far _ _ _ _ neg7g3).trans (cell_far _ _ _ _ neg7g3)).trans o0⟩) (fun hHeld2 => ?_)
        clear hK K hHeld
        have hHeld := hHeld2; clear hHeld2
        try simp only [Act.put, List.setIfInBounds_toArray, List.set_cons_zero, List.set_cons_succ]
        clear r0 r1 rf0 rf1 R0 T0 BB
        generalize ((u7.setCell ⟨g3, 0, none⟩ (.int .i64 (px + Cl.rround ⟨ln, ld⟩ (qx - px)))).setCell ⟨g3, 1, none⟩ (.int .i64 (py + Cl.rround ⟨ln, ld⟩ (qy - py)))) = v15 at *
        have R0 := R1; have T0 := T1; have BB := BB1; clear R1 T1 BB1
        obtain ⟨r0, r1⟩ := cell_two T0.out; have rf0 := free_blk T0.out 0; have rf1 := free_blk T0.out 1
        refine wpAnyH_ready (rs := [16]) (by kernel_rfl) (by simp) ?_
        refine AllReadyH.cons (o := _) rfl (fun K hK => ?_) AllReadyH.nil
        go_simp
        have R1 : Hid (((v15.setCell ⟨g4, 0, none⟩ (.int .i64 (px + Cl.rround ⟨hn, hd⟩ (qx - px)))).setCell ⟨g4, 1, none⟩ (.int .i64 (py + Cl.rround ⟨hn, hd⟩ (qy - py)))).heap[g4]? = _) := Lib.hid (set_two T0.out (.int .i64 (px + Cl.rround ⟨hn, hd⟩ (qx - px))) (.int .i64 (py + Cl.rround ⟨hn, hd⟩ (qy - py)))); have T1 : Hid (((v15.setCell ⟨g4, 0, none⟩ (.int .i64 (px + Cl.rround ⟨hn, hd⟩ (qx - px)))).setCell ⟨g4, 1, none⟩ (.int .i64 (py + Cl.rround ⟨hn, hd⟩ (qy - py)))).heap[g3]? = _) := Lib.hid ((blk_two v15 g4 g3 (.int .i64 (px + Cl.rround ⟨hn, hd⟩ (qx - px))) (.int .i64 (py + Cl.rround ⟨hn, hd⟩ (qy - py))) neg3g4).trans R0.out)
        have BB1 : Hid (Below g0 w ((v15.setCell ⟨g4, 0, none⟩ (.int .i64 (px + Cl.rround ⟨hn, hd⟩ (qx - px)))).setCell ⟨g4, 1, none⟩ (.int .i64 (py + Cl.rround ⟨hn, hd⟩ (qy - py))))) := Lib.hid ((BB.out.setCell (by simp; omega) _).setCell (by simp; omega) _)
        refine hK.out _ _ (by obtain ⟨c0, c1, cx, cy, l0, l1, h0, h1, o0⟩ := hHeld; exact ⟨((cell_far _ _ _ _ neg0g4).trans (cell_far _ _ _ _ neg0g4)).trans c0, ((cell_far _ _ _ _ neg0g4).trans (cell_far _ _ _ _ neg0g4)).trans c1, ((cell_far _ _ _ _ negxg4).trans (cell_far _ _ _ _ negxg4)).trans cx, ((cell_far _ _ _ _ negyg4).trans (cell_far _ _ _ _ negyg4)).trans cy, ((cell_far _ _ _ _ neg5g4).trans (cell_far _ _ _ _ neg5g4)).trans l0, ((cell_far _ _ _ _ neg5g4).trans (cell_far _ _ _ _ neg5g4)).trans l1, ((cell_far _ _ _ _ neg6g4).trans (cell_far _ _ _ _ neg6g4)).trans h0, ((cell_far _ _ _ _ neg6g4).trans (cell_far _ _ _ _ neg6g4)).trans h1, ((cell_far _ _ _ _ neg7g4).trans (cell_far _ _ _ _ neg7g4)).trans o0⟩) (fun hHeld2 => ?_)
        clear hK K hHeld
        have hHeld := hHeld2; clear hHeld2
        try simp only [Act.put, List.setIfInBounds_toArray, List.set_cons_zero, List.set_cons_succ]
        clear r0 r1 rf0 rf1 R0 T0 BB
        generalize ((v15.setCell ⟨g4, 0, none⟩ (.int .i64 (px + Cl.rround ⟨hn, hd⟩ (qx - px)))).setCell ⟨g4, 1, none⟩ (.int .i64 (py + Cl.rround ⟨hn, hd⟩ (qy - py)))) = v16 at *
        have T0 := R1; have R0 := T1; have BB := BB1; clear R1 T1 BB1
        refine wpAnyH_ready (rs := [17]) (by kernel_rfl) (by simp) ?_
        refine AllReadyH.cons (o := _) rfl (fun K hK => ?_) AllReadyH.nil
        go_simp
        refine hK.out _ _ (hHeld) (fun hHeld2 => ?_)
        clear hK K hHeld
        have hHeld := hHeld2; clear hHeld2
        try simp only [Act.put, List.setIfInBounds_toArray, List.set_cons_zero, List.set_cons_succ]
        refine wpAnyH_done (by kernel_rfl) ?_ _
        refine NoPanic.normal ?_
        go_wp2
        obtain ⟨r0, r1⟩ := cell_two R0.out; obtain ⟨t0, t1⟩ := cell_two T0.out
        refine bodyPost_ret (v := .tuple #[.agg #[.int .i64 (px + Cl.rround ⟨ln, ld⟩ (qx - px)), .int .i64 (py + Cl.rround ⟨ln, ld⟩ (qy - py))], .agg #[.int .i64 (px + Cl.rround ⟨hn, hd⟩ (qx - px)), .int .i64 (py + Cl.rround ⟨hn, hd⟩ (qy - py))], .bool false]) (by simp [results, Try.results29, go_sem, r0, r1, t0, t1]) rfl ⟨?_, ?_⟩
        · rw [HPA.out, HPB.out, HOK.out]; rfl
        · have := hw0.out; subst this; exact BB.out
    · go_wp2_with fail
      refine wp_region_noPanic ?_
      refine wp_region_held_drew (S := fun w' => w'.cell? ⟨g0, 0, none⟩ = some (.int .i64 px) ∧ w'.cell? ⟨g0, 1, none⟩ = some (.int .i64 py) ∧ w'.cell? ⟨gx, 0, none⟩ = some (.int .i64 (qx - px)) ∧ w'.cell? ⟨gy, 0, none⟩ = some (.int .i64 (qy - py)) ∧ w'.cell? ⟨g5, 0, none⟩ = some (.int .i64 ln) ∧ w'.cell? ⟨g5, 1, none⟩ = some (.int .i64 ld) ∧ w'.cell? ⟨g6, 0, none⟩ = some (.int .i64 hn) ∧ w'.cell? ⟨g6, 1, none⟩ = some (.int .i64 hd) ∧ w'.cell? ⟨g7, 0, none⟩ = some (.bool true)) (by kernel_rfl) ?_ (fun hHeld => ?_)
      · exact ⟨c0, c1, cx, cy, l0, l1, h0, h1, o0⟩
      have BB : Hid (Below g0 w V2.drew) := Lib.hid BV2.out.drew
      have z0 : g0 ≤ V2.drew.heap.size := z0
      have R0 : Hid (V2.drew.heap[g3]? = _) := Lib.hid WV2.out.r; have T0 : Hid (V2.drew.heap[g4]? = _) := Lib.hid WV2.out.t
      clear r0 r1 t0 t1 rf0 rf1 tf0 tf1 z3 z4 c0 c1 cx cy l0 l1 h0 h1 o0
      generalize V2.drew = u at *
      refine wpAnyH_take (i := 0) (oi := _) (v := ?_) rfl (by kernel_rfl) (by kernel_rfl) (by kernel_rfl) (fun _ _ _ h => h) (Or.inl ⟨by rfl, ?_⟩) (by assumption) ?_
      rotate_left
      · intro w hSw; (try dsimp only at hSw); go_simp; all_goals (with_reducible rfl)
      try simp only [Act.put, List.setIfInBounds_toArray, List.set_cons_zero, List.set_cons_succ]
      refine wpAnyH_take (i := 1) (oi := _) (v := ?_) rfl (by kernel_rfl) (by kernel_rfl) (by kernel_rfl) (fun _ _ _ h => h) (Or.inl ⟨by rfl, ?_⟩) (by assumption) ?_
      rotate_left
      · intro w hSw; (try dsimp only at hSw); go_simp; all_goals (with_reducible rfl)
      try simp only [Act.put, List.setIfInBounds_toArray, List.set_cons_zero, List.set_cons_succ]
      refine wpAnyH_take (i := 4) (oi := _) (v := ?_) rfl (by kernel_rfl) (by kernel_rfl) (by kernel_rfl) (fun _ _ _ h => h) (Or.inl ⟨by rfl, ?_⟩) (by assumption) ?_
      rotate_left
      · intro w hSw; (try dsimp only at hSw); go_simp; all_goals (with_reducible rfl)
      try simp only [Act.put, List.setIfInBounds_toArray, List.set_cons_zero, List.set_cons_succ]
      refine wpAnyH_take (i := 5) (oi := _) (v := ?_) rfl (by kernel_rfl) (by kernel_rfl) (by kernel_rfl) (fun _ _ _ h => h) (Or.inl ⟨by rfl, ?_⟩) (by assumption) ?_
      rotate_left
      · intro w hSw; (try dsimp only at hSw); go_simp; all_goals (with_reducible rfl)
      try simp only [Act.put, List.setIfInBounds_toArray, List.set_cons_zero, List.set_cons_succ]
      refine wpAnyH_take (i := 8) (oi := _) (v := ?_) rfl (by kernel_rfl) (by kernel_rfl) (by kernel_rfl) (fun _ _ _ h => h) (Or.inl ⟨by rfl, ?_⟩) (by assumption) ?_
      rotate_left
      · intro w hSw; (try dsimp only at hSw); go_simp; all_goals (with_reducible rfl)
      try simp only [Act.put, List.setIfInBounds_toArray, List.set_cons_zero, List.set_cons_succ]
      refine wpAnyH_ready (rs := [2, 6]) (by kernel_rfl) (by simp) ?_
      refine AllReadyH.cons (o := _) rfl (fun K hK => ?_) (AllReadyH.cons (o := _) rfl (fun K hK => ?_) AllReadyH.nil)
      · skip
        go_simp
        refine hK.out _ _ (hHeld) (fun hHeld2 => ?_)
        clear hK K hHeld
        have hHeld := hHeld2; clear hHeld2
        try simp only [Act.put, List.setIfInBounds_toArray, List.set_cons_zero, List.set_cons_succ]
        refine wpAnyH_ready (rs := [3, 6]) (by kernel_rfl) (by simp) ?_
        refine AllReadyH.cons (o := _) rfl (fun K hK => ?_) (AllReadyH.cons (o := _) rfl (fun K hK => ?_) AllReadyH.nil)
        · skip
          go_simp
          have hz := lt_of_block R0.out; have hz2 := lt_of_block T0.out
          refine (AR.out _ _ SL.out _ hHeld.1 hHeld.2.1 hHeld.2.2.1 hHeld.2.2.2.1).mono ?_
          rintro e u3 ⟨rfl, hb⟩
          have hN : u3.cell? ⟨g0, 0, none⟩ = some (.int .i64 px) ∧ u3.cell? ⟨g0, 1, none⟩ = some (.int .i64 py) ∧ u3.cell? ⟨gx, 0, none⟩ = some (.int .i64 (qx - px)) ∧ u3.cell? ⟨gy, 0, none⟩ = some (.int .i64 (qy - py)) ∧ u3.cell? ⟨g5, 0, none⟩ = some (.int .i64 ln) ∧ u3.cell? ⟨g5, 1, none⟩ = some (.int .i64 ld) ∧ u3.cell? ⟨g6, 0, none⟩ = some (.int .i64 hn) ∧ u3.cell? ⟨g6, 1, none⟩ = some (.int .i64 hd) ∧ u3.cell? ⟨g7, 0, none⟩ = some (.bool true) := by
            obtain ⟨c0, c1, cx, cy, l0, l1, h0, h1, o0⟩ := hHeld
            exact ⟨(hb.cell (World.block_lt_of_cell? _ _ c0)).trans c0, (hb.cell (World.block_lt_of_cell? _ _ c1)).trans c1, (hb.cell (World.block_lt_of_cell? _ _ cx)).trans cx, (hb.cell (World.block_lt_of_cell? _ _ cy)).trans cy, (hb.cell (World.block_lt_of_cell? _ _ l0)).trans l0, (hb.cell (World.block_lt_of_cell? _ _ l1)).trans l1, (hb.cell (World.block_lt_of_cell? _ _ h0)).trans h0, (hb.cell (World.block_lt_of_cell? _ _ h1)).trans h1, (hb.cell (World.block_lt_of_cell? _ _ o0)).trans o0⟩
          have BB := Lib.hid (BB.out.trans (hb.mono z0)); have z0 := Nat.le_trans z0 hb.size; have R0 := Lib.hid ((hb.block _ hz).trans R0.out); have T0 := Lib.hid ((hb.block _ hz2).trans T0.out); clear hb hz hz2
          refine hK.out _ _ (hN) (fun hHeld2 => ?_)
          clear hK K hHeld
          have hHeld := hHeld2; clear hHeld2
          try simp only [Act.put, List.setIfInBounds_toArray, List.set_cons_zero, List.set_cons_succ]
          refine wpAnyH_ready (rs := [6]) (by kernel_rfl) (by simp) ?_
          refine AllReadyH.cons (o := _) rfl (fun K hK => ?_) AllReadyH.nil
          go_simp
          refine hK.out _ _ (hHeld) (fun hHeld2 => ?_)
          clear hK K hHeld
          have hHeld := hHeld2; clear hHeld2
          try simp only [Act.put, List.setIfInBounds_toArray, List.set_cons_zero, List.set_cons_succ]
          refine wpAnyH_ready (rs := [7]) (by kernel_rfl) (by simp) ?_
          refine AllReadyH.cons (o := _) rfl (fun K hK => ?_) AllReadyH.nil
          go_simp
          have hz := lt_of_block R0.out; have hz2 := lt_of_block T0.out
          refine (AR.out _ _ SH.out _ hHeld.1 hHeld.2.1 hHeld.2.2.1 hHeld.2.2.2.1).mono ?_
          rintro e u7 ⟨rfl, hb⟩
          have hN : u7.cell? ⟨g0, 0, none⟩ = some (.int .i64 px) ∧ u7.cell? ⟨g0, 1, none⟩ = some (.int .i64 py) ∧ u7.cell? ⟨gx, 0, none⟩ = some (.int .i64 (qx - px)) ∧ u7.cell? ⟨gy, 0, none⟩ = some (.int .i64 (qy - py)) ∧ u7.cell? ⟨g5, 0, none⟩ = some (.int .i64 ln) ∧ u7.cell? ⟨g5, 1, none⟩ = some (.int .i64 ld) ∧ u7.cell? ⟨g6, 0, none⟩ = some (.int .i64 hn) ∧ u7.cell? ⟨g6, 1, none⟩ = some (.int .i64 hd) ∧ u7.cell? ⟨g7, 0, none⟩ = some (.bool true) := by
            obtain ⟨c0, c1, cx, cy, l0, l1, h0, h1, o0⟩ := hHeld
            exact ⟨(hb.cell (World.block_lt_of_cell? _ _ c0)).trans c0, (hb.cell (World.block_lt_of_cell? _ _ c1)).trans c1, (hb.cell (World.block_lt_of_cell? _ _ cx)).trans cx, (hb.cell (World.block_lt_of_cell? _ _ cy)).trans cy, (hb.cell (World.block_lt_of_cell? _ _ l0)).trans l0, (hb.cell (World.block_lt_of_cell? _ _ l1)).trans l1, (hb.cell (World.block_lt_of_cell? _ _ h0)).trans h0, (hb.cell (World.block_lt_of_cell? _ _ h1)).trans h1, (hb.cell (World.block_lt_of_cell? _ _ o0)).trans o0⟩
          have BB := Lib.hid (BB.out.trans (hb.mono z0)); have z0 := Nat.le_trans z0 hb.size; have R0 := Lib.hid ((hb.block _ hz).trans R0.out); have T0 := Lib.hid ((hb.block _ hz2).trans T0.out); clear hb hz hz2
          refine hK.out _ _ (hN) (fun hHeld2 => ?_)
          clear hK K hHeld
          have hHeld := hHeld2; clear hHeld2
          try simp only [Act.put, List.setIfInBounds_toArray, List.set_cons_zero, List.set_cons_succ]
          refine wpAnyH_take (i := 9) (oi := _) (v := ?_) rfl (by kernel_rfl) (by kernel_rfl) (by kernel_rfl) (fun _ _ _ h => h) (Or.inl ⟨by rfl, ?_⟩) (by assumption) ?_
          rotate_left
          · intro w hSw; (try dsimp only at hSw); go_simp; all_goals (with_reducible rfl)
          try simp only [Act.put, List.setIfInBounds_toArray, List.set_cons_zero, List.set_cons_succ]
          refine wpAnyH_take (i := 10) (oi := _) (v := ?_) rfl (by kernel_rfl) (by kernel_rfl) (by kernel_rfl) (fun _ _ _ h => h) (Or.inl ⟨by rfl, ?_⟩) (by assumption) ?_
          rotate_left
          · intro w hSw; (try dsimp only at hSw); go_simp; all_goals (with_reducible rfl)
          try simp only [Act.put, List.setIfInBounds_toArray, List.set_cons_zero, List.set_cons_succ]
          refine wpAnyH_take (i := 11) (oi := _) (v := ?_) rfl (by kernel_rfl) (by kernel_rfl) (by kernel_rfl) (fun _ _ _ h => h) (Or.inl ⟨by rfl, ?_⟩) (by assumption) ?_
          rotate_left
          · intro w hSw; (try dsimp only at hSw); go_simp; all_goals (with_reducible rfl)
          try simp only [Act.put, List.setIfInBounds_toArray, List.set_cons_zero, List.set_cons_succ]
          refine wpAnyH_ready (rs := [12]) (by kernel_rfl) (by simp) ?_
          refine AllReadyH.cons (o := _) rfl (fun K hK => ?_) AllReadyH.nil
          go_simp
          have hz := lt_of_block R0.out; have hz2 := lt_of_block T0.out
          refine (less_b ⟨hn, hd⟩ ⟨ln, ld⟩ _ _ SH.out SL.out rfl).mono ?_
          rintro e u12 ⟨rfl, hb⟩
          have hN : u12.cell? ⟨g0, 0, none⟩ = some (.int .i64 px) ∧ u12.cell? ⟨g0, 1, none⟩ = some (.int .i64 py) ∧ u12.cell? ⟨gx, 0, none⟩ = some (.int .i64 (qx - px)) ∧ u12.cell? ⟨gy, 0, none⟩ = some (.int .i64 (qy - py)) ∧ u12.cell? ⟨g5, 0, none⟩ = some (.int .i64 ln) ∧ u12.cell? ⟨g5, 1, none⟩ = some (.int .i64 ld) ∧ u12.cell? ⟨g6, 0, none⟩ = some (.int .i64 hn) ∧ u12.cell? ⟨g6, 1, none⟩ = some (.int .i64 hd) ∧ u12.cell? ⟨g7, 0, none⟩ = some (.bool true) := by
            obtain ⟨c0, c1, cx, cy, l0, l1, h0, h1, o0⟩ := hHeld
            exact ⟨(hb.cell (World.block_lt_of_cell? _ _ c0)).trans c0, (hb.cell (World.block_lt_of_cell? _ _ c1)).trans c1, (hb.cell (World.block_lt_of_cell? _ _ cx)).trans cx, (hb.cell (World.block_lt_of_cell? _ _ cy)).trans cy, (hb.cell (World.block_lt_of_cell? _ _ l0)).trans l0, (hb.cell (World.block_lt_of_cell? _ _ l1)).trans l1, (hb.cell (World.block_lt_of_cell? _ _ h0)).trans h0, (hb.cell (World.block_lt_of_cell? _ _ h1)).trans h1, (hb.cell (World.block_lt_of_cell? _ _ o0)).trans o0⟩
          have BB := Lib.hid (BB.out.trans (hb.mono z0)); have z0 := Nat.le_trans z0 hb.size; have R0 := Lib.hid ((hb.block _ hz).trans R0.out); have T0 := Lib.hid ((hb.block _ hz2).trans T0.out); clear hb hz hz2
          refine hK.out _ _ (hN) (fun hHeld2 => ?_)
          clear hK K hHeld
          have hHeld := hHeld2; clear hHeld2
          try simp only [Act.put, List.setIfInBounds_toArray, List.set_cons_zero, List.set_cons_succ]
          refine wpAnyH_take (i := 13) (oi := _) (v := ?_) rfl (by kernel_rfl) (by kernel_rfl) (by kernel_rfl) (fun _ _ _ h => h) (Or.inl ⟨by rfl, ?_⟩) (by assumption) ?_
          rotate_left
          · intro w hSw; (try dsimp only at hSw); go_simp; all_goals (with_reducible rfl)
          try simp only [Act.put, List.setIfInBounds_toArray, List.set_cons_zero, List.set_cons_succ]
          refine wpAnyH_take (i := 14) (oi := _) (v := ?_) rfl (by kernel_rfl) (by kernel_rfl) (by kernel_rfl) (fun _ _ _ h => h) (Or.inl ⟨by rfl, ?_⟩) (by assumption) ?_
          rotate_left
          · intro w hSw; (try dsimp only at hSw); go_simp; all_goals (with_reducible rfl)
          try simp only [Act.put, List.setIfInBounds_toArray, List.set_cons_zero, List.set_cons_succ]
          obtain ⟨r0, r1⟩ := cell_two R0.out; have rf0 := free_blk R0.out 0; have rf1 := free_blk R0.out 1
          refine wpAnyH_ready (rs := [15]) (by kernel_rfl) (by simp) ?_
          refine AllReadyH.cons (o := _) rfl (fun K hK => ?_) AllReadyH.nil
          go_simp
          have R1 : Hid (((u12.setCell ⟨g3, 0, none⟩ (.int .i64 (px + Cl.rround ⟨ln, ld⟩ (qx - px)))).setCell ⟨g3, 1, none⟩ (.int .i64 (py + Cl.rround ⟨ln, ld⟩ (qy - py)))).heap[g3]? = _) := Lib.hid (set_two R0.out (.int .i64 (px + Cl.rround ⟨ln, ld⟩ (qx - px))) (.int .i64 (py + Cl.rround ⟨ln, ld⟩ (qy - py)))); have T1 : Hid (((u12.setCell ⟨g3, 0, none⟩ (.int .i64 (px + Cl.rround ⟨ln, ld⟩ (qx - px)))).setCell ⟨g3, 1, none⟩ (.int .i64 (py + Cl.rround ⟨ln, ld⟩ (qy - py)))).heap[g4]? = _) := Lib.hid ((blk_two u12 g3 g4 (.int .i64 (px + Cl.rround ⟨ln, ld⟩ (qx - px))) (.int .i64 (py + Cl.rround ⟨ln, ld⟩ (qy - py))) (Ne.symm neg3g4)).trans T0.out)
          have BB1 : Hid (Below g0 w ((u12.setCell ⟨g3, 0, none⟩ (.int .i64 (px + Cl.rround ⟨ln, ld⟩ (qx - px)))).setCell ⟨g3, 1, none⟩ (.int .i64 (py + Cl.rround ⟨ln, ld⟩ (qy - py))))) := Lib.hid ((BB.out.setCell (by simp; omega) _).setCell (by simp; omega) _)
          refine hK.out _ _ (by obtain ⟨c0, c1, cx, cy, l0, l1, h0, h1, o0⟩ := hHeld; exact ⟨((cell_far _ _ _ _ neg0g3).trans (cell_far _ _ _ _ neg0g3)).trans c0, ((cell_far _ _ _ _ neg0g3).trans (cell_far _ _ _ _ neg0g3)).trans c1, ((cell_far _ _ _ _ negxg3).trans (cell_far _ _ _ _ negxg3)).trans cx, ((cell_far _ _ _ _ negyg3).trans (cell_far _ _ _ _ negyg3)).trans cy, ((cell_far _ _ _ _ neg5g3).trans (cell_far _ _ _ _ neg5g3)).trans l0, ((cell_far _ _ _ _ neg5g3).trans (cell_far _ _ _ _ neg5g3)).trans l1, ((cell_far _ _ _ _ neg6g3).trans (cell_far _ _ _ _ neg6g3)).trans h0, ((cell_far _ _ _ _ neg6g3).trans (cell_far _ _ _ _ neg6g3)).trans h1, ((cell_far _ _ _ _ neg7g3).trans (cell_far _ _ _ _ neg7g3)).trans o0⟩) (fun hHeld2 => ?_)
          clear hK K hHeld
          have hHeld := hHeld2; clear hHeld2
          try simp only [Act.put, List.setIfInBounds_toArray, List.set_cons_zero, List.set_cons_succ]
          clear r0 r1 rf0 rf1 R0 T0 BB
          generalize ((u12.setCell ⟨g3, 0, none⟩ (.int .i64 (px + Cl.rround ⟨ln, ld⟩ (qx - px)))).setCell ⟨g3, 1, none⟩ (.int .i64 (py + Cl.rround ⟨ln, ld⟩ (qy - py)))) = v15 at *
          have R0 := R1; have T0 := T1; have BB := BB1; clear R1 T1 BB1
          obtain ⟨r0, r1⟩ := cell_two T0.out; have rf0 := free_blk T0.out 0; have rf1 := free_blk T0.out 1
          refine wpAnyH_ready (rs := [16]) (by kernel_rfl) (by simp) ?_
          refine AllReadyH.cons (o := _) rfl (fun K hK => ?_) AllReadyH.nil
          go_simp
          have R1 : Hid (((v15.setCell ⟨g4, 0, none⟩ (.int .i64 (px + Cl.rround ⟨hn, hd⟩ (qx - px)))).setCell ⟨g4, 1, none⟩ (.int .i64 (py + Cl.rround ⟨hn, hd⟩ (qy - py)))).heap[g4]? = _) := Lib.hid (set_two T0.out (.int .i64 (px + Cl.rround ⟨hn, hd⟩ (qx - px))) (.int .i64 (py + Cl.rround ⟨hn, hd⟩ (qy - py)))); have T1 : Hid (((v15.setCell ⟨g4, 0, none⟩ (.int .i64 (px + Cl.rround ⟨hn, hd⟩ (qx - px)))).setCell ⟨g4, 1, none⟩ (.int .i64 (py + Cl.rround ⟨hn, hd⟩ (qy - py)))).heap[g3]? = _) := Lib.hid ((blk_two v15 g4 g3 (.int .i64 (px + Cl.rround ⟨hn, hd⟩ (qx - px))) (.int .i64 (py + Cl.rround ⟨hn, hd⟩ (qy - py))) neg3g4).trans R0.out)
          have BB1 : Hid (Below g0 w ((v15.setCell ⟨g4, 0, none⟩ (.int .i64 (px + Cl.rround ⟨hn, hd⟩ (qx - px)))).setCell ⟨g4, 1, none⟩ (.int .i64 (py + Cl.rround ⟨hn, hd⟩ (qy - py))))) := Lib.hid ((BB.out.setCell (by simp; omega) _).setCell (by simp; omega) _)
          refine hK.out _ _ (by obtain ⟨c0, c1, cx, cy, l0, l1, h0, h1, o0⟩ := hHeld; exact ⟨((cell_far _ _ _ _ neg0g4).trans (cell_far _ _ _ _ neg0g4)).trans c0, ((cell_far _ _ _ _ neg0g4).trans (cell_far _ _ _ _ neg0g4)).trans c1, ((cell_far _ _ _ _ negxg4).trans (cell_far _ _ _ _ negxg4)).trans cx, ((cell_far _ _ _ _ negyg4).trans (cell_far _ _ _ _ negyg4)).trans cy, ((cell_far _ _ _ _ neg5g4).trans (cell_far _ _ _ _ neg5g4)).trans l0, ((cell_far _ _ _ _ neg5g4).trans (cell_far _ _ _ _ neg5g4)).trans l1, ((cell_far _ _ _ _ neg6g4).trans (cell_far _ _ _ _ neg6g4)).trans h0, ((cell_far _ _ _ _ neg6g4).trans (cell_far _ _ _ _ neg6g4)).trans h1, ((cell_far _ _ _ _ neg7g4).trans (cell_far _ _ _ _ neg7g4)).trans o0⟩) (fun hHeld2 => ?_)
          clear hK K hHeld
          have hHeld := hHeld2; clear hHeld2
          try simp only [Act.put, List.setIfInBounds_toArray, List.set_cons_zero, List.set_cons_succ]
          clear r0 r1 rf0 rf1 R0 T0 BB
          generalize ((v15.setCell ⟨g4, 0, none⟩ (.int .i64 (px + Cl.rround ⟨hn, hd⟩ (qx - px)))).setCell ⟨g4, 1, none⟩ (.int .i64 (py + Cl.rround ⟨hn, hd⟩ (qy - py)))) = v16 at *
          have T0 := R1; have R0 := T1; have BB := BB1; clear R1 T1 BB1
          refine wpAnyH_ready (rs := [17]) (by kernel_rfl) (by simp) ?_
          refine AllReadyH.cons (o := _) rfl (fun K hK => ?_) AllReadyH.nil
          go_simp
          refine hK.out _ _ (hHeld) (fun hHeld2 => ?_)
          clear hK K hHeld
          have hHeld := hHeld2; clear hHeld2
          try simp only [Act.put, List.setIfInBounds_toArray, List.set_cons_zero, List.set_cons_succ]
          refine wpAnyH_done (by kernel_rfl) ?_ _
          refine NoPanic.normal ?_
          go_wp2
          obtain ⟨r0, r1⟩ := cell_two R0.out; obtain ⟨t0, t1⟩ := cell_two T0.out
          refine bodyPost_ret (v := .tuple #[.agg #[.int .i64 (px + Cl.rround ⟨ln, ld⟩ (qx - px)), .int .i64 (py + Cl.rround ⟨ln, ld⟩ (qy - py))], .agg #[.int .i64 (px + Cl.rround ⟨hn, hd⟩ (qx - px)), .int .i64 (py + Cl.rround ⟨hn, hd⟩ (qy - py))], .bool (!Cl.rless ⟨hn, hd⟩ ⟨ln, ld⟩)]) (by simp [results, Try.results29, go_sem, r0, r1, t0, t1]) rfl ⟨?_, ?_⟩
          · rw [HPA.out, HPB.out, HOK.out]; rfl
          · have := hw0.out; subst this; exact BB.out
        · skip
          go_simp
          refine hK.out _ _ (hHeld) (fun hHeld2 => ?_)
          clear hK K hHeld
          have hHeld := hHeld2; clear hHeld2
          try simp only [Act.put, List.setIfInBounds_toArray, List.set_cons_zero, List.set_cons_succ]
          refine wpAnyH_ready (rs := [3]) (by kernel_rfl) (by simp) ?_
          refine AllReadyH.cons (o := _) rfl (fun K hK => ?_) AllReadyH.nil
          go_simp
          have hz := lt_of_block R0.out; have hz2 := lt_of_block T0.out
          refine (AR.out _ _ SL.out _ hHeld.1 hHeld.2.1 hHeld.2.2.1 hHeld.2.2.2.1).mono ?_
          rintro e u3 ⟨rfl, hb⟩
          have hN : u3.cell? ⟨g0, 0, none⟩ = some (.int .i64 px) ∧ u3.cell? ⟨g0, 1, none⟩ = some (.int .i64 py) ∧ u3.cell? ⟨gx, 0, none⟩ = some (.int .i64 (qx - px)) ∧ u3.cell? ⟨gy, 0, none⟩ = some (.int .i64 (qy - py)) ∧ u3.cell? ⟨g5, 0, none⟩ = some (.int .i64 ln) ∧ u3.cell? ⟨g5, 1, none⟩ = some (.int .i64 ld) ∧ u3.cell? ⟨g6, 0, none⟩ = some (.int .i64 hn) ∧ u3.cell? ⟨g6, 1, none⟩ = some (.int .i64 hd) ∧ u3.cell? ⟨g7, 0, none⟩ = some (.bool true) := by
            obtain ⟨c0, c1, cx, cy, l0, l1, h0, h1, o0⟩ := hHeld
            exact ⟨(hb.cell (World.block_lt_of_cell? _ _ c0)).trans c0, (hb.cell (World.block_lt_of_cell? _ _ c1)).trans c1, (hb.cell (World.block_lt_of_cell? _ _ cx)).trans cx, (hb.cell (World.block_lt_of_cell? _ _ cy)).trans cy, (hb.cell (World.block_lt_of_cell? _ _ l0)).trans l0, (hb.cell (World.block_lt_of_cell? _ _ l1)).trans l1, (hb.cell (World.block_lt_of_cell? _ _ h0)).trans h0, (hb.cell (World.block_lt_of_cell? _ _ h1)).trans h1, (hb.cell (World.block_lt_of_cell? _ _ o0)).trans o0⟩
          have BB := Lib.hid (BB.out.trans (hb.mono z0)); have z0 := Nat.le_trans z0 hb.size; have R0 := Lib.hid ((hb.block _ hz).trans R0.out); have T0 := Lib.hid ((hb.block _ hz2).trans T0.out); clear hb hz hz2
          refine hK.out _ _ (hN) (fun hHeld2 => ?_)
          clear hK K hHeld
          have hHeld := hHeld2; clear hHeld2
          try simp only [Act.put, List.setIfInBounds_toArray, List.set_cons_zero, List.set_cons_succ]
          refine wpAnyH_ready (rs := [7]) (by kernel_rfl) (by simp) ?_
          refine AllReadyH.cons (o := _) rfl (fun K hK => ?_) AllReadyH.nil
          go_simp
          have hz := lt_of_block R0.out; have hz2 := lt_of_block T0.out
          refine (AR.out _ _ SH.out _ hHeld.1 hHeld.2.1 hHeld.2.2.1 hHeld.2.2.2.1).mono ?_
          rintro e u7 ⟨rfl, hb⟩
          have hN : u7.cell? ⟨g0, 0, none⟩ = some (.int .i64 px) ∧ u7.cell? ⟨g0, 1, none⟩ = some (.int .i64 py) ∧ u7.cell? ⟨gx, 0, none⟩ = some (.int .i64 (qx - px)) ∧ u7.cell? ⟨gy, 0, none⟩ = some (.int .i64 (qy - py)) ∧ u7.cell? ⟨g5, 0, none⟩ = some (.int .i64 ln) ∧ u7.cell? ⟨g5, 1, none⟩ = some (.int .i64 ld) ∧ u7.cell? ⟨g6, 0, none⟩ = some (.int .i64 hn) ∧ u7.cell? ⟨g6, 1, none⟩ = some (.int .i64 hd) ∧ u7.cell? ⟨g7, 0, none⟩ = some (.bool true) := by
            obtain ⟨c0, c1, cx, cy, l0, l1, h0, h1, o0⟩ := hHeld
            exact ⟨(hb.cell (World.block_lt_of_cell? _ _ c0)).trans c0, (hb.cell (World.block_lt_of_cell? _ _ c1)).trans c1, (hb.cell (World.block_lt_of_cell? _ _ cx)).trans cx, (hb.cell (World.block_lt_of_cell? _ _ cy)).trans cy, (hb.cell (World.block_lt_of_cell? _ _ l0)).trans l0, (hb.cell (World.block_lt_of_cell? _ _ l1)).trans l1, (hb.cell (World.block_lt_of_cell? _ _ h0)).trans h0, (hb.cell (World.block_lt_of_cell? _ _ h1)).trans h1, (hb.cell (World.block_lt_of_cell? _ _ o0)).trans o0⟩
          have BB := Lib.hid (BB.out.trans (hb.mono z0)); have z0 := Nat.le_trans z0 hb.size; have R0 := Lib.hid ((hb.block _ hz).trans R0.out); have T0 := Lib.hid ((hb.block _ hz2).trans T0.out); clear hb hz hz2
          refine hK.out _ _ (hN) (fun hHeld2 => ?_)
          clear hK K hHeld
          have hHeld := hHeld2; clear hHeld2
          try simp only [Act.put, List.setIfInBounds_toArray, List.set_cons_zero, List.set_cons_succ]
          refine wpAnyH_take (i := 9) (oi := _) (v := ?_) rfl (by kernel_rfl) (by kernel_rfl) (by kernel_rfl) (fun _ _ _ h => h) (Or.inl ⟨by rfl, ?_⟩) (by assumption) ?_
          rotate_left
          · intro w hSw; (try dsimp only at hSw); go_simp; all_goals (with_reducible rfl)
          try simp only [Act.put, List.setIfInBounds_toArray, List.set_cons_zero, List.set_cons_succ]
          refine wpAnyH_take (i := 10) (oi := _) (v := ?_) rfl (by kernel_rfl) (by kernel_rfl) (by kernel_rfl) (fun _ _ _ h => h) (Or.inl ⟨by rfl, ?_⟩) (by assumption) ?_
          rotate_left
          · intro w hSw; (try dsimp only at hSw); go_simp; all_goals (with_reducible rfl)
          try simp only [Act.put, List.setIfInBounds_toArray, List.set_cons_zero, List.set_cons_succ]
          refine wpAnyH_take (i := 11) (oi := _) (v := ?_) rfl (by kernel_rfl) (by kernel_rfl) (by kernel_rfl) (fun _ _ _ h => h) (Or.inl ⟨by rfl, ?_⟩) (by assumption) ?_
          rotate_left
          · intro w hSw; (try dsimp only at hSw); go_simp; all_goals (with_reducible rfl)
          try simp only [Act.put, List.setIfInBounds_toArray, List.set_cons_zero, List.set_cons_succ]
          refine wpAnyH_ready (rs := [12]) (by kernel_rfl) (by simp) ?_
          refine AllReadyH.cons (o := _) rfl (fun K hK => ?_) AllReadyH.nil
          go_simp
          have hz := lt_of_block R0.out; have hz2 := lt_of_block T0.out
          refine (less_b ⟨hn, hd⟩ ⟨ln, ld⟩ _ _ SH.out SL.out rfl).mono ?_
          rintro e u12 ⟨rfl, hb⟩
          have hN : u12.cell? ⟨g0, 0, none⟩ = some (.int .i64 px) ∧ u12.cell? ⟨g0, 1, none⟩ = some (.int .i64 py) ∧ u12.cell? ⟨gx, 0, none⟩ = some (.int .i64 (qx - px)) ∧ u12.cell? ⟨gy, 0, none⟩ = some (.int .i64 (qy - py)) ∧ u12.cell? ⟨g5, 0, none⟩ = some (.int .i64 ln) ∧ u12.cell? ⟨g5, 1, none⟩ = some (.int .i64 ld) ∧ u12.cell? ⟨g6, 0, none⟩ = some (.int .i64 hn) ∧ u12.cell? ⟨g6, 1, none⟩ = some (.int .i64 hd) ∧ u12.cell? ⟨g7, 0, none⟩ = some (.bool true) := by
            obtain ⟨c0, c1, cx, cy, l0, l1, h0, h1, o0⟩ := hHeld
            exact ⟨(hb.cell (World.block_lt_of_cell? _ _ c0)).trans c0, (hb.cell (World.block_lt_of_cell? _ _ c1)).trans c1, (hb.cell (World.block_lt_of_cell? _ _ cx)).trans cx, (hb.cell (World.block_lt_of_cell? _ _ cy)).trans cy, (hb.cell (World.block_lt_of_cell? _ _ l0)).trans l0, (hb.cell (World.block_lt_of_cell? _ _ l1)).trans l1, (hb.cell (World.block_lt_of_cell? _ _ h0)).trans h0, (hb.cell (World.block_lt_of_cell? _ _ h1)).trans h1, (hb.cell (World.block_lt_of_cell? _ _ o0)).trans o0⟩
          have BB := Lib.hid (BB.out.trans (hb.mono z0)); have z0 := Nat.le_trans z0 hb.size; have R0 := Lib.hid ((hb.block _ hz).trans R0.out); have T0 := Lib.hid ((hb.block _ hz2).trans T0.out); clear hb hz hz2
          refine hK.out _ _ (hN) (fun hHeld2 => ?_)
          clear hK K hHeld
          have hHeld := hHeld2; clear hHeld2
          try simp only [Act.put, List.setIfInBounds_toArray, List.set_cons_zero, List.set_cons_succ]
          refine wpAnyH_take (i := 13) (oi := _) (v := ?_) rfl (by kernel_rfl) (by kernel_rfl) (by kernel_rfl) (fun _ _ _ h => h) (Or.inl ⟨by rfl, ?_⟩) (by assumption) ?_
          rotate_left
          · intro w hSw; (try dsimp only at hSw); go_simp; all_goals (with_reducible rfl)
          try simp only [Act.put, List.setIfInBounds_toArray, List.set_cons_zero, List.set_cons_succ]
          refine wpAnyH_take (i := 14) (oi := _) (v := ?_) rfl (by kernel_rfl) (by kernel_rfl) (by kernel_rfl) (fun _ _ _ h => h) (Or.inl ⟨by rfl, ?_⟩) (by assumption) ?_
          rotate_left
          · intro w hSw; (try dsimp only at hSw); go_simp; all_goals (with_reducible rfl)
          try simp only [Act.put, List.setIfInBounds_toArray, List.set_cons_zero, List.set_cons_succ]
          obtain ⟨r0, r1⟩ := cell_two R0.out; have rf0 := free_blk R0.out 0; have rf1 := free_blk R0.out 1
          refine wpAnyH_ready (rs := [15]) (by kernel_rfl) (by simp) ?_
          refine AllReadyH.cons (o := _) rfl (fun K hK => ?_) AllReadyH.nil
          go_simp
          have R1 : Hid (((u12.setCell ⟨g3, 0, none⟩ (.int .i64 (px + Cl.rround ⟨ln, ld⟩ (qx - px)))).setCell ⟨g3, 1, none⟩ (.int .i64 (py + Cl.rround ⟨ln, ld⟩ (qy - py)))).heap[g3]? = _) := Lib.hid (set_two R0.out (.int .i64 (px + Cl.rround ⟨ln, ld⟩ (qx - px))) (.int .i64 (py + Cl.rround ⟨ln, ld⟩ (qy - py)))); have T1 : Hid (((u12.setCell ⟨g3, 0, none⟩ (.int .i64 (px + Cl.rround ⟨ln, ld⟩ (qx - px)))).setCell ⟨g3, 1, none⟩ (.int .i64 (py + Cl.rround ⟨ln, ld⟩ (qy - py)))).heap[g4]? = _) := Lib.hid ((blk_two u12 g3 g4 (.int .i64 (px + Cl.rround ⟨ln, ld⟩ (qx - px))) (.int .i64 (py + Cl.rround ⟨ln, ld⟩ (qy - py))) (Ne.symm neg3g4)).trans T0.out)
          have BB1 : Hid (Below g0 w ((u12.setCell ⟨g3, 0, none⟩ (.int .i64 (px + Cl.rround ⟨ln, ld⟩ (qx - px)))).setCell ⟨g3, 1, none⟩ (.int .i64 (py + Cl.rround ⟨ln, ld⟩ (qy - py))))) := Lib.hid ((BB.out.setCell (by simp; omega) _).setCell (by simp; omega) _)
          refine hK.out _ _ (by obtain ⟨c0, c1, cx, cy, l0, l1, h0, h1, o0⟩ := hHeld; exact ⟨((cell_far _ _ _ _ neg0g3).trans (cell_far _ _ _ _ neg0g3)).trans c0, ((cell_far _ _ _ _ neg0g3).trans (cell_far _ _ _ _ neg0g3)).trans c1, ((cell_far _ _ _ _ negxg3).trans (cell_far _ _ _ _ negxg3)).trans cx, ((cell_far _ _ _ _ negyg3).trans (cell_far _ _ _ _ negyg3)).trans cy, ((cell_far _ _ _ _ neg5g3).trans (cell_far _ _ _ _ neg5g3)).trans l0, ((cell_far _ _ _ _ neg5g3).trans (cell_far _ _ _ _ neg5g3)).trans l1, ((cell_far _ _ _ _ neg6g3).trans (cell_far _ _ _ _ neg6g3)).trans h0, ((cell_far _ _ _ _ neg6g3).trans (cell_far _ _ _ _ neg6g3)).trans h1, ((cell_far _ _ _ _ neg7g3).trans (cell_far _ _ _ _ neg7g3)).trans o0⟩) (fun hHeld2 => ?_)
          clear hK K hHeld
          have hHeld := hHeld2; clear hHeld2
          try simp only [Act.put, List.setIfInBounds_toArray, List.set_cons_zero, List.set_cons_succ]
          clear r0 r1 rf0 rf1 R0 T0 BB
          generalize ((u12.setCell ⟨g3, 0, none⟩ (.int .i64 (px + Cl.rround ⟨ln, ld⟩ (qx - px)))).setCell ⟨g3, 1, none⟩ (.int .i64 (py + Cl.rround ⟨ln, ld⟩ (qy - py)))) = v15 at *
          have R0 := R1; have T0 := T1; have BB := BB1; clear R1 T1 BB1
          obtain ⟨r0, r1⟩ := cell_two T0.out; have rf0 := free_blk T0.out 0; have rf1 := free_blk T0.out 1
          refine wpAnyH_ready (rs := [16]) (by kernel_rfl) (by simp) ?_
          refine AllReadyH.cons (o := _) rfl (fun K hK => ?_) AllReadyH.nil
          go_simp
          have R1 : Hid (((v15.setCell ⟨g4, 0, none⟩ (.int .i64 (px + Cl.rround ⟨hn, hd⟩ (qx - px)))).setCell ⟨g4, 1, none⟩ (.int .i64 (py + Cl.rround ⟨hn, hd⟩ (qy - py)))).heap[g4]? = _) := Lib.hid (set_two T0.out (.int .i64 (px + Cl.rround ⟨hn, hd⟩ (qx - px))) (.int .i64 (py + Cl.rround ⟨hn, hd⟩ (qy - py)))); have T1 : Hid (((v15.setCell ⟨g4, 0, none⟩ (.int .i64 (px + Cl.rround ⟨hn, hd⟩ (qx - px)))).setCell ⟨g4, 1, none⟩ (.int .i64 (py + Cl.rround ⟨hn, hd⟩ (qy - py)))).heap[g3]? = _) := Lib.hid ((blk_two v15 g4 g3 (.int .i64 (px + Cl.rround ⟨hn, hd⟩ (qx - px))) (.int .i64 (py + Cl.rround ⟨hn, hd⟩ (qy - py))) neg3g4).trans R0.out)
          have BB1 : Hid (Below g0 w ((v15.setCell ⟨g4, 0, none⟩ (.int .i64 (px + Cl.rround ⟨hn, hd⟩ (qx - px)))).setCell ⟨g4, 1, none⟩ (.int .i64 (py + Cl.rround ⟨hn, hd⟩ (qy - py))))) := Lib.hid ((BB.out.setCell (by simp; omega) _).setCell (by simp; omega) _)
          refine hK.out _ _ (by obtain ⟨c0, c1, cx, cy, l0, l1, h0, h1, o0⟩ := hHeld; exact ⟨((cell_far _ _ _ _ neg0g4).trans (cell_far _ _ _ _ neg0g4)).trans c0, ((cell_far _ _ _ _ neg0g4).trans (cell_far _ _ _ _ neg0g4)).trans c1, ((cell_far _ _ _ _ negxg4).trans (cell_far _ _ _ _ negxg4)).trans cx, ((cell_far _ _ _ _ negyg4).trans (cell_far _ _ _ _ negyg4)).trans cy, ((cell_far _ _ _ _ neg5g4).trans (cell_far _ _ _ _ neg5g4)).trans l0, ((cell_far _ _ _ _ neg5g4).trans (cell_far _ _ _ _ neg5g4)).trans l1, ((cell_far _ _ _ _ neg6g4).trans (cell_far _ _ _ _ neg6g4)).trans h0, ((cell_far _ _ _ _ neg6g4).trans (cell_far _ _ _ _ neg6g4)).trans h1, ((cell_far _ _ _ _ neg7g4).trans (cell_far _ _ _ _ neg7g4)).trans o0⟩) (fun hHeld2 => ?_)
          clear hK K hHeld
          have hHeld := hHeld2; clear hHeld2
          try simp only [Act.put, List.setIfInBounds_toArray, List.set_cons_zero, List.set_cons_succ]
          clear r0 r1 rf0 rf1 R0 T0 BB
          generalize ((v15.setCell ⟨g4, 0, none⟩ (.int .i64 (px + Cl.rround ⟨hn, hd⟩ (qx - px)))).setCell ⟨g4, 1, none⟩ (.int .i64 (py + Cl.rround ⟨hn, hd⟩ (qy - py)))) = v16 at *
          have T0 := R1; have R0 := T1; have BB := BB1; clear R1 T1 BB1
          refine wpAnyH_ready (rs := [17]) (by kernel_rfl) (by simp) ?_
          refine AllReadyH.cons (o := _) rfl (fun K hK => ?_) AllReadyH.nil
          go_simp
          refine hK.out _ _ (hHeld) (fun hHeld2 => ?_)
          clear hK K hHeld
          have hHeld := hHeld2; clear hHeld2
          try simp only [Act.put, List.setIfInBounds_toArray, List.set_cons_zero, List.set_cons_succ]
          refine wpAnyH_done (by kernel_rfl) ?_ _
          refine NoPanic.normal ?_
          go_wp2
          obtain ⟨r0, r1⟩ := cell_two R0.out; obtain ⟨t0, t1⟩ := cell_two T0.out
          refine bodyPost_ret (v := .tuple #[.agg #[.int .i64 (px + Cl.rround ⟨ln, ld⟩ (qx - px)), .int .i64 (py + Cl.rround ⟨ln, ld⟩ (qy - py))], .agg #[.int .i64 (px + Cl.rround ⟨hn, hd⟩ (qx - px)), .int .i64 (py + Cl.rround ⟨hn, hd⟩ (qy - py))], .bool (!Cl.rless ⟨hn, hd⟩ ⟨ln, ld⟩)]) (by simp [results, Try.results29, go_sem, r0, r1, t0, t1]) rfl ⟨?_, ?_⟩
          · rw [HPA.out, HPB.out, HOK.out]; rfl
          · have := hw0.out; subst this; exact BB.out
      · skip
        go_simp
        refine hK.out _ _ (hHeld) (fun hHeld2 => ?_)
        clear hK K hHeld
        have hHeld := hHeld2; clear hHeld2
        try simp only [Act.put, List.setIfInBounds_toArray, List.set_cons_zero, List.set_cons_succ]
        refine wpAnyH_ready (rs := [2]) (by kernel_rfl) (by simp) ?_
        refine AllReadyH.cons (o := _) rfl (fun K hK => ?_) AllReadyH.nil
        go_simp
        refine hK.out _ _ (hHeld) (fun hHeld2 => ?_)
        clear hK K hHeld
        have hHeld := hHeld2; clear hHeld2
        try simp only [Act.put, List.setIfInBounds_toArray, List.set_cons_zero, List.set_cons_succ]
        refine wpAnyH_ready (rs := [3]) (by kernel_rfl) (by simp) ?_
        refine AllReadyH.cons (o := _) rfl (fun K hK => ?_) AllReadyH.nil
        go_simp
        have hz := lt_of_block R0.out; have hz2 := lt_of_block T0.out
        refine (AR.out _ _ SL.out _ hHeld.1 hHeld.2.1 hHeld.2.2.1 hHeld.2.2.2.1).mono ?_
        rintro e u3 ⟨rfl, hb⟩
        have hN : u3.cell? ⟨g0, 0, none⟩ = some (.int .i64 px) ∧ u3.cell? ⟨g0, 1, none⟩ = some (.int .i64 py) ∧ u3.cell? ⟨gx, 0, none⟩ = some (.int .i64 (qx - px)) ∧ u3.cell? ⟨gy, 0, none⟩ = some (.int .i64 (qy - py)) ∧ u3.cell? ⟨g5, 0, none⟩ = some (.int .i64 ln) ∧ u3.cell? ⟨g5, 1, none⟩ = some (.int .i64 ld) ∧ u3.cell? ⟨g6, 0, none⟩ = some (.int .i64 hn) ∧ u3.cell? ⟨g6, 1, none⟩ = some (.int .i64 hd) ∧ u3.cell? ⟨g7, 0, none⟩ = some (.bool true) := by
          obtain ⟨c0, c1, cx, cy, l0, l1, h0, h1, o0⟩ := hHeld
          exact ⟨(hb.cell (World.block_lt_of_cell? _ _ c0)).trans c0, (hb.cell (World.block_lt_of_cell? _ _ c1)).trans c1, (hb.cell (World.block_lt_of_cell? _ _ cx)).trans cx, (hb.cell (World.block_lt_of_cell? _ _ cy)).trans cy, (hb.cell (World.block_lt_of_cell? _ _ l0)).trans l0, (hb.cell (World.block_lt_of_cell? _ _ l1)).trans l1, (hb.cell (World.block_lt_of_cell? _ _ h0)).trans h0, (hb.cell (World.block_lt_of_cell? _ _ h1)).trans h1, (hb.cell (World.block_lt_of_cell? _ _ o0)).trans o0⟩
        have BB := Lib.hid (BB.out.trans (hb.mono z0)); have z0 := Nat.le_trans z0 hb.size; have R0 := Lib.hid ((hb.block _ hz).trans R0.out); have T0 := Lib.hid ((hb.block _ hz2).trans T0.out); clear hb hz hz2
        refine hK.out _ _ (hN) (fun hHeld2 => ?_)
        clear hK K hHeld
        have hHeld := hHeld2; clear hHeld2
        try simp only [Act.put, List.setIfInBounds_toArray, List.set_cons_zero, List.set_cons_succ]
        refine wpAnyH_ready (rs := [7]) (by kernel_rfl) (by simp) ?_
        refine AllReadyH.cons (o := _) rfl (fun K hK => ?_) AllReadyH.nil
        go_simp
        have hz := lt_of_block R0.out; have hz2 := lt_of_block T0.out
        refine (AR.out _ _ SH.out _ hHeld.1 hHeld.2.1 hHeld.2.2.1 hHeld.2.2.2.1).mono ?_
        rintro e u7 ⟨rfl, hb⟩
        have hN : u7.cell? ⟨g0, 0, none⟩ = some (.int .i64 px) ∧ u7.cell? ⟨g0, 1, none⟩ = some (.int .i64 py) ∧ u7.cell? ⟨gx, 0, none⟩ = some (.int .i64 (qx - px)) ∧ u7.cell? ⟨gy, 0, none⟩ = some (.int .i64 (qy - py)) ∧ u7.cell? ⟨g5, 0, none⟩ = some (.int .i64 ln) ∧ u7.cell? ⟨g5, 1, none⟩ = some (.int .i64 ld) ∧ u7.cell? ⟨g6, 0, none⟩ = some (.int .i64 hn) ∧ u7.cell? ⟨g6, 1, none⟩ = some (.int .i64 hd) ∧ u7.cell? ⟨g7, 0, none⟩ = some (.bool true) := by
          obtain ⟨c0, c1, cx, cy, l0, l1, h0, h1, o0⟩ := hHeld
          exact ⟨(hb.cell (World.block_lt_of_cell? _ _ c0)).trans c0, (hb.cell (World.block_lt_of_cell? _ _ c1)).trans c1, (hb.cell (World.block_lt_of_cell? _ _ cx)).trans cx, (hb.cell (World.block_lt_of_cell? _ _ cy)).trans cy, (hb.cell (World.block_lt_of_cell? _ _ l0)).trans l0, (hb.cell (World.block_lt_of_cell? _ _ l1)).trans l1, (hb.cell (World.block_lt_of_cell? _ _ h0)).trans h0, (hb.cell (World.block_lt_of_cell? _ _ h1)).trans h1, (hb.cell (World.block_lt_of_cell? _ _ o0)).trans o0⟩
        have BB := Lib.hid (BB.out.trans (hb.mono z0)); have z0 := Nat.le_trans z0 hb.size; have R0 := Lib.hid ((hb.block _ hz).trans R0.out); have T0 := Lib.hid ((hb.block _ hz2).trans T0.out); clear hb hz hz2
        refine hK.out _ _ (hN) (fun hHeld2 => ?_)
        clear hK K hHeld
        have hHeld := hHeld2; clear hHeld2
        try simp only [Act.put, List.setIfInBounds_toArray, List.set_cons_zero, List.set_cons_succ]
        refine wpAnyH_take (i := 9) (oi := _) (v := ?_) rfl (by kernel_rfl) (by kernel_rfl) (by kernel_rfl) (fun _ _ _ h => h) (Or.inl ⟨by rfl, ?_⟩) (by assumption) ?_
        rotate_left
        · intro w hSw; (try dsimp only at hSw); go_simp; all_goals (with_reducible rfl)
        try simp only [Act.put, List.setIfInBounds_toArray, List.set_cons_zero, List.set_cons_succ]
        refine wpAnyH_take (i := 10) (oi := _) (v := ?_) rfl (by kernel_rfl) (by kernel_rfl) (by kernel_rfl) (fun _ _ _ h => h) (Or.inl ⟨by rfl, ?_⟩) (by assumption) ?_
        rotate_left
        · intro w hSw; (try dsimp only at hSw); go_simp; all_goals (with_reducible rfl)
        try simp only [Act.put, List.setIfInBounds_toArray, List.set_cons_zero, List.set_cons_succ]
        refine wpAnyH_take (i := 11) (oi := _) (v := ?_) rfl (by kernel_rfl) (by kernel_rfl) (by kernel_rfl) (fun _ _ _ h => h) (Or.inl ⟨by rfl, ?_⟩) (by assumption) ?_
        rotate_left
        · intro w hSw; (try dsimp only at hSw); go_simp; all_goals (with_reducible rfl)
        try simp only [Act.put, List.setIfInBounds_toArray, List.set_cons_zero, List.set_cons_succ]
        refine wpAnyH_ready (rs := [12]) (by kernel_rfl) (by simp) ?_
        refine AllReadyH.cons (o := _) rfl (fun K hK => ?_) AllReadyH.nil
        go_simp
        have hz := lt_of_block R0.out; have hz2 := lt_of_block T0.out
        refine (less_b ⟨hn, hd⟩ ⟨ln, ld⟩ _ _ SH.out SL.out rfl).mono ?_
        rintro e u12 ⟨rfl, hb⟩
        have hN : u12.cell? ⟨g0, 0, none⟩ = some (.int .i64 px) ∧ u12.cell? ⟨g0, 1, none⟩ = some (.int .i64 py) ∧ u12.cell? ⟨gx, 0, none⟩ = some (.int .i64 (qx - px)) ∧ u12.cell? ⟨gy, 0, none⟩ = some (.int .i64 (qy - py)) ∧ u12.cell? ⟨g5, 0, none⟩ = some (.int .i64 ln) ∧ u12.cell? ⟨g5, 1, none⟩ = some (.int .i64 ld) ∧ u12.cell? ⟨g6, 0, none⟩ = some (.int .i64 hn) ∧ u12.cell? ⟨g6, 1, none⟩ = some (.int .i64 hd) ∧ u12.cell? ⟨g7, 0, none⟩ = some (.bool true) := by
          obtain ⟨c0, c1, cx, cy, l0, l1, h0, h1, o0⟩ := hHeld
          exact ⟨(hb.cell (World.block_lt_of_cell? _ _ c0)).trans c0, (hb.cell (World.block_lt_of_cell? _ _ c1)).trans c1, (hb.cell (World.block_lt_of_cell? _ _ cx)).trans cx, (hb.cell (World.block_lt_of_cell? _ _ cy)).trans cy, (hb.cell (World.block_lt_of_cell? _ _ l0)).trans l0, (hb.cell (World.block_lt_of_cell? _ _ l1)).trans l1, (hb.cell (World.block_lt_of_cell? _ _ h0)).trans h0, (hb.cell (World.block_lt_of_cell? _ _ h1)).trans h1, (hb.cell (World.block_lt_of_cell? _ _ o0)).trans o0⟩
        have BB := Lib.hid (BB.out.trans (hb.mono z0)); have z0 := Nat.le_trans z0 hb.size; have R0 := Lib.hid ((hb.block _ hz).trans R0.out); have T0 := Lib.hid ((hb.block _ hz2).trans T0.out); clear hb hz hz2
        refine hK.out _ _ (hN) (fun hHeld2 => ?_)
        clear hK K hHeld
        have hHeld := hHeld2; clear hHeld2
        try simp only [Act.put, List.setIfInBounds_toArray, List.set_cons_zero, List.set_cons_succ]
        refine wpAnyH_take (i := 13) (oi := _) (v := ?_) rfl (by kernel_rfl) (by kernel_rfl) (by kernel_rfl) (fun _ _ _ h => h) (Or.inl ⟨by rfl, ?_⟩) (by assumption) ?_
        rotate_left
        · intro w hSw; (try dsimp only at hSw); go_simp; all_goals (with_reducible rfl)
        try simp only [Act.put, List.setIfInBounds_toArray, List.set_cons_zero, List.set_cons_succ]
        refine wpAnyH_take (i := 14) (oi := _) (v := ?_) rfl (by kernel_rfl) (by kernel_rfl) (by kernel_rfl) (fun _ _ _ h => h) (Or.inl ⟨by rfl, ?_⟩) (by assumption) ?_
        rotate_left
        · intro w hSw; (try dsimp only at hSw); go_simp; all_goals (with_reducible rfl)
        try simp only [Act.put, List.setIfInBounds_toArray, List.set_cons_zero, List.set_cons_succ]
        obtain ⟨r0, r1⟩ := cell_two R0.out; have rf0 := free_blk R0.out 0; have rf1 := free_blk R0.out 1
        refine wpAnyH_ready (rs := [15]) (by kernel_rfl) (by simp) ?_
        refine AllReadyH.cons (o := _) rfl (fun K hK => ?_) AllReadyH.nil
        go_simp
        have R1 : Hid (((u12.setCell ⟨g3, 0, none⟩ (.int .i64 (px + Cl.rround ⟨ln, ld⟩ (qx - px)))).setCell ⟨g3, 1, none⟩ (.int .i64 (py + Cl.rround ⟨ln, ld⟩ (qy - py)))).heap[g3]? = _) := Lib.hid (set_two R0.out (.int .i64 (px + Cl.rround ⟨ln, ld⟩ (qx - px))) (.int .i64 (py + Cl.rround ⟨ln, ld⟩ (qy - py)))); have T1 : Hid (((u12.setCell ⟨g3, 0, none⟩ (.int .i64 (px + Cl.rround ⟨ln, ld⟩ (qx - px)))).setCell ⟨g3, 1, none⟩ (.int .i64 (py + Cl.rround ⟨ln, ld⟩ (qy - py)))).heap[g4]? = _) := Lib.hid ((blk_two u12 g3 g4 (.int .i64 (px + Cl.rround ⟨ln, ld⟩ (qx - px))) (.int .i64 (py + Cl.rround ⟨ln, ld⟩ (qy - py))) (Ne.symm neg3g4)).trans T0.out)
        have BB1 : Hid (Below g0 w ((u12.setCell ⟨g3, 0, none⟩ (.int .i64 (px + Cl.rround ⟨ln, ld⟩ (qx - px)))).setCell ⟨g3, 1, none⟩ (.int .i64 (py + Cl.rround ⟨ln, ld⟩ (qy - py))))) := Lib.hid ((BB.out.setCell (by simp; omega) _).setCell (by simp; omega) _)
        refine hK.out _ _ (by obtain ⟨c0, c1, cx, cy, l0, l1, h0, h1, o0⟩ := hHeld; exact ⟨((cell_far _ _ _ _ neg0g3).trans (cell_far _ _ _ _ neg0g3)).trans c0, ((cell_far _ _ _ _ neg0g3).trans (cell_far _ _ _ _ neg0g3)).trans c1, ((cell_far _ _ _ _ negxg3).trans (cell_far _ _ _ _ negxg3)).trans cx, ((cell_far _ _ _ _ negyg3).trans (cell_far _ _ _ _ negyg3)).trans cy, ((cell_far _ _ _ _ neg5g3).trans (cell_far _ _ _ _ neg5g3)).trans l0, ((cell_far _ _ _ _ neg5g3).trans (cell_far _ _ _ _ neg5g3)).trans l1, ((cell_far _ _ _ _ neg6g3).trans (cell_far _ _ _ _ neg6g3)).trans h0, ((cell_far _ _ _ _ neg6g3).trans (cell_far _ _ _ _ neg6g3)).trans h1, ((cell_far _ _ _ _ neg7g3).trans (cell_far _ _ _ _ neg7g3)).trans o0⟩) (fun hHeld2 => ?_)
        clear hK K hHeld
        have hHeld := hHeld2; clear hHeld2
        try simp only [Act.put, List.setIfInBounds_toArray, List.set_cons_zero, List.set_cons_succ]
        clear r0 r1 rf0 rf1 R0 T0 BB
        generalize ((u12.setCell ⟨g3, 0, none⟩ (.int .i64 (px + Cl.rround ⟨ln, ld⟩ (qx - px)))).setCell ⟨g3, 1, none⟩ (.int .i64 (py + Cl.rround ⟨ln, ld⟩ (qy - py)))) = v15 at *
        have R0 := R1; have T0 := T1; have BB := BB1; clear R1 T1 BB1
        obtain ⟨r0, r1⟩ := cell_two T0.out; have rf0 := free_blk T0.out 0; have rf1 := free_blk T0.out 1
        refine wpAnyH_ready (rs := [16]) (by kernel_rfl) (by simp) ?_
        refine AllReadyH.cons (o := _) rfl (fun K hK => ?_) AllReadyH.nil
        go_simp
        have R1 : Hid (((v15.setCell ⟨g4, 0, none⟩ (.int .i64 (px + Cl.rround ⟨hn, hd⟩ (qx - px)))).setCell ⟨g4, 1, none⟩ (.int .i64 (py + Cl.rround ⟨hn, hd⟩ (qy - py)))).heap[g4]? = _) := Lib.hid (set_two T0.out (.int .i64 (px + Cl.rround ⟨hn, hd⟩ (qx - px))) (.int .i64 (py + Cl.rround ⟨hn, hd⟩ (qy - py)))); have T1 : Hid (((v15.setCell ⟨g4, 0, none⟩ (.int .i64 (px + Cl.rround ⟨hn, hd⟩ (qx - px)))).setCell ⟨g4, 1, none⟩ (.int .i64 (py + Cl.rround ⟨hn, hd⟩ (qy - py)))).heap[g3]? = _) := Lib.hid ((blk_two v15 g4 g3 (.int .i64 (px + Cl.rround ⟨hn, hd⟩ (qx - px))) (.int .i64 (py + Cl.rround ⟨hn, hd⟩ (qy - py))) neg3g4).trans R0.out)
        have BB1 : Hid (Below g0 w ((v15.setCell ⟨g4, 0, none⟩ (.int .i64 (px + Cl.rround ⟨hn, hd⟩ (qx - px)))).setCell ⟨g4, 1, none⟩ (.int .i64 (py + Cl.rround ⟨hn, hd⟩ (qy - py))))) := Lib.hid ((BB.out.setCell (by simp; omega) _).setCell (by simp; omega) _)
        refine hK.out _ _ (by obtain ⟨c0, c1, cx, cy, l0, l1, h0, h1, o0⟩ := hHeld; exact ⟨((cell_far _ _ _ _ neg0g4).trans (cell_far _ _ _ _ neg0g4)).trans c0, ((cell_far _ _ _ _ neg0g4).trans (cell_far _ _ _ _ neg0g4)).trans c1, ((cell_far _ _ _ _ negxg4).trans (cell_far _ _ _ _ negxg4)).trans cx, ((cell_far _ _ _ _ negyg4).trans (cell_far _ _ _ _ negyg4)).trans cy, ((cell_far _ _ _ _ neg5g4).trans (cell_far _ _ _ _ neg5g4)).trans l0, ((cell_far _ _ _ _ neg5g4).trans (cell_far _ _ _ _ neg5g4)).trans l1, ((cell_far _ _ _ _ neg6g4).trans (cell_far _ _ _ _ neg6g4)).trans h0, ((cell_far _ _ _ _ neg6g4).trans (cell_far _ _ _ _ neg6g4)).trans h1, ((cell_far _ _ _ _ neg7g4).trans (cell_far _ _ _ _ neg7g4)).trans o0⟩) (fun hHeld2 => ?_)
        clear hK K hHeld
        have hHeld := hHeld2; clear hHeld2
        try simp only [Act.put, List.setIfInBounds_toArray, List.set_cons_zero, List.set_cons_succ]
        clear r0 r1 rf0 rf1 R0 T0 BB
        generalize ((v15.setCell ⟨g4, 0, none⟩ (.int .i64 (px + Cl.rround ⟨hn, hd⟩ (qx - px)))).setCell ⟨g4, 1, none⟩ (.int .i64 (py + Cl.rround ⟨hn, hd⟩ (qy - py)))) = v16 at *
        have T0 := R1; have R0 := T1; have BB := BB1; clear R1 T1 BB1
        refine wpAnyH_ready (rs := [17]) (by kernel_rfl) (by simp) ?_
        refine AllReadyH.cons (o := _) rfl (fun K hK => ?_) AllReadyH.nil
        go_simp
        refine hK.out _ _ (hHeld) (fun hHeld2 => ?_)
        clear hK K hHeld
        have hHeld := hHeld2; clear hHeld2
        try simp only [Act.put, List.setIfInBounds_toArray, List.set_cons_zero, List.set_cons_succ]
        refine wpAnyH_done (by kernel_rfl) ?_ _
        refine NoPanic.normal ?_
        go_wp2
        obtain ⟨r0, r1⟩ := cell_two R0.out; obtain ⟨t0, t1⟩ := cell_two T0.out
        refine bodyPost_ret (v := .tuple #[.agg #[.int .i64 (px + Cl.rround ⟨ln, ld⟩ (qx - px)), .int .i64 (py + Cl.rround ⟨ln, ld⟩ (qy - py))], .agg #[.int .i64 (px + Cl.rround ⟨hn, hd⟩ (qx - px)), .int .i64 (py + Cl.rround ⟨hn, hd⟩ (qy - py))], .bool (!Cl.rless ⟨hn, hd⟩ ⟨ln, ld⟩)]) (by simp [results, Try.results29, go_sem, r0, r1, t0, t1]) rfl ⟨?_, ?_⟩
        · rw [HPA.out, HPB.out, HOK.out]; rfl
        · have := hw0.out; subst this; exact BB.out
  · skip
    have PXV := Lib.hid (px_2 W (qx - px) (qy - py))
    clear c0 c1 c2 c3
    change Exit.then _ _ _ _ (((W.alloc (.cells #[.int .i64 (qy - py)] 3)).alloc (.cells #[.int .i64 (qx - px)] 3)).drew)
    generalize (((W.alloc (.cells #[.int .i64 (qy - py)] 3)).alloc (.cells #[.int .i64 (qx - px)] 3)).drew) = V at *
    obtain ⟨gx, hgx⟩ : ∃ g, g = (W.heap.size + 1) := ⟨_, rfl⟩; obtain ⟨gy, hgy⟩ : ∃ g, g = W.heap.size := ⟨_, rfl⟩
    rw [← hgx] at PXV ⊢; rw [← hgy] at PXV ⊢
    have jx : g7 < gx := by omega
    have jy : g7 < gy := by omega
    have jxy : gx ≠ gy := by omega
    clear hgx hgy
    have WV := Lib.hid (W0.out.keep PXV.out.bel (by omega) (by omega) (by omega) (by omega) (by omega) (by omega) (by omega) i7)
    have BV := Lib.hid (B0.out.trans (PXV.out.bel.mono (by omega)))
    have kx := lt_of_block PXV.out.x; have ky := lt_of_block PXV.out.y
    have HX := Lib.hid PXV.out.x; have HY := Lib.hid PXV.out.y; clear W0 B0 PXV
    obtain ⟨c0, c1⟩ := cell_two WV.out.p; obtain ⟨m0, m1, m2, m3⟩ := WV.out.b.c; have cx := cell_of_one HX.out; have cy := cell_of_one HY.out; simp only at m0 m1 m2 m3
    go_wp2_with fail
    refine (bound_any px (qx - px) x0 x1 Cl.st0 g5 g6 g7 _ WV.out.v (by omega) (by omega) (by omega) Cl.sm0 ⟨hp1, hp2⟩ ⟨b1, b2⟩ ⟨b5, b6⟩ (by omega) b9).mono ?_
    rintro e V1 ⟨rfl, hv, hb⟩
    clear c0 c1 m0 m1 m2 m3 cx cy
    have WV1 := Lib.hid (WV.out.but hb hv (by omega) (by omega) (by omega) (by omega) (by omega) i5 i6)
    have HX1 := Lib.hid ((hb.block gx kx (by unfold X3; omega)).trans HX.out); have HY1 := Lib.hid ((hb.block gy ky (by unfold X3; omega)).trans HY.out)
    have BV1 := Lib.hid (BV.out.trans (hb.below (B := g0) (by have := kx; omega) (by unfold X3; omega)))
    have kx1 := lt_of_block HX1.out; have ky1 := lt_of_block HY1.out; clear hb hv HX HY WV BV
    obtain ⟨c0, c1⟩ := cell_two WV1.out.p; obtain ⟨m0, m1, m2, m3⟩ := WV1.out.b.c; have cx := cell_of_one HX1.out; have cy := cell_of_one HY1.out; simp only at m0 m1 m2 m3
    go_wp2_with fail
    refine (bound_any py (qy - py) y0 y1 (Cl.st1 (px, py) (qx, qy) ⟨x0, y0, x1, y1⟩) g5 g6 g7 _ WV1.out.v (by omega) (by omega) (by omega) S1.out ⟨hp3, hp4⟩ ⟨b3, b4⟩ ⟨b7, b8⟩ (by omega) b10).mono ?_
    rintro e V2 ⟨rfl, hv, hb⟩
    clear c0 c1 m0 m1 m2 m3 cx cy
    have WV2 : Hid (PW V2 g0 g1 g2 g3 g4 g5 g6 g7 px py qx qy ⟨x0, y0, x1, y1⟩ (Cl.st2 (px, py) (qx, qy) ⟨x0, y0, x1, y1⟩)) := Lib.hid (WV1.out.but hb hv (by omega) (by omega) (by omega) (by omega) (by omega) i5 i6)
    have HX2 := Lib.hid ((hb.block gx kx1 (by unfold X3; omega)).trans HX1.out); have HY2 := Lib.hid ((hb.block gy ky1 (by unfold X3; omega)).trans HY1.out)
    have BV2 := Lib.hid (BV1.out.trans (hb.below (B := g0) (by have := kx1; omega) (by unfold X3; omega)))
    have kx2 := lt_of_block HX2.out; have ky2 := lt_of_block HY2.out; clear hb hv HX1 HY1 WV1 BV1 kx ky kx1 ky1 S1
    have HOK : Hid (Cl.pcOk (px, py) (qx, qy) ⟨x0, y0, x1, y1⟩ = ((Cl.st2 (px, py) (qx, qy) ⟨x0, y0, x1, y1⟩).ok && !Cl.rless (Cl.st2 (px, py) (qx, qy) ⟨x0, y0, x1, y1⟩).high (Cl.st2 (px, py) (qx, qy) ⟨x0, y0, x1, y1⟩).low)) := Lib.hid rfl
    have HPA : Hid (Cl.pcA (px, py) (qx, qy) ⟨x0, y0, x1, y1⟩ = (px + Cl.rround (Cl.st2 (px, py) (qx, qy) ⟨x0, y0, x1, y1⟩).low (qx - px), py + Cl.rround (Cl.st2 (px, py) (qx, qy) ⟨x0, y0, x1, y1⟩).low (qy - py))) := Lib.hid rfl
    have HPB : Hid (Cl.pcB (px, py) (qx, qy) ⟨x0, y0, x1, y1⟩ = (px + Cl.rround (Cl.st2 (px, py) (qx, qy) ⟨x0, y0, x1, y1⟩).high (qx - px), py + Cl.rround (Cl.st2 (px, py) (qx, qy) ⟨x0, y0, x1, y1⟩).high (qy - py))) := Lib.hid rfl
    generalize Cl.st2 (px, py) (qx, qy) ⟨x0, y0, x1, y1⟩ = s at *
    obtain ⟨⟨ln, ld⟩, ⟨hn, hd⟩, ok⟩ := s
    have SL := Lib.hid S2.out.low; have SH := Lib.hid S2.out.high; clear S2
    simp only at SL SH HPA HPB
    obtain ⟨c0, c1⟩ := cell_two WV2.out.p; obtain ⟨m0, m1, m2, m3⟩ := WV2.out.b.c; have cx := cell_of_one HX2.out; have cy := cell_of_one HY2.out; simp only at m0 m1 m2 m3
    obtain ⟨l0, l1⟩ := WV2.out.v.low_c; obtain ⟨h0, h1⟩ := WV2.out.v.high_c; have o0 := WV2.out.v.ok_c; simp only at l0 l1 h0 h1 o0
    obtain ⟨r0, r1⟩ := cell_two WV2.out.r; obtain ⟨t0, t1⟩ := cell_two WV2.out.t; have rf0 := free_blk WV2.out.r 0; have rf1 := free_blk WV2.out.r 1; have tf0 := free_blk WV2.out.t 0; have tf1 := free_blk WV2.out.t 1
    have AR : Hid (∀ (n d : Int) (_ : Cl.Sm ⟨n, d⟩) (u : World), u.cell? ⟨g0, 0, none⟩ = some (.int .i64 px) → u.cell? ⟨g0, 1, none⟩ = some (.int .i64 py) → u.cell? ⟨gx, 0, none⟩ = some (.int .i64 (qx - px)) → u.cell? ⟨gy, 0, none⟩ = some (.int .i64 (qy - py)) → Calls Try.prog 50 #[.func (.func 51) #[.agg #[.int .i64 n, .int .i64 d]] #[], .pointer (some ⟨g0, 0, none⟩), .pointer (some ⟨gx, 0, none⟩), .pointer (some ⟨gy, 0, none⟩)] u fun e w' => e = .returned (.agg #[.int .i64 (px + Cl.rround ⟨n, d⟩ (qx - px)), .int .i64 (py + Cl.rround ⟨n, d⟩ (qy - py))]) ∧ Below u.heap.size u w') := Lib.hid (fun n d hs u k0 k1 k2 k3 => at_any px py (qx - px) (qy - py) n d g0 gx gy u hs ⟨hp1, hp2⟩ ⟨hp3, hp4⟩ (by omega) (by omega) k0 k1 k2 k3 (World.block_lt_of_cell? u _ k0) (World.block_lt_of_cell? u _ k2) (World.block_lt_of_cell? u _ k3))
    clear wx wy
    clear hp1 hp2 hp3 hp4 hq1 hq2 hq3 hq4 b1 b2 b3 b4 b5 b6 b7 b8 b9 b10 m0 m1 m2 m3
    have neg0g3 : g0 ≠ g3 := by omega
    have neg0g4 : g0 ≠ g4 := by omega
    have neg5g3 : g5 ≠ g3 := by omega
    have neg5g4 : g5 ≠ g4 := by omega
    have neg6g3 : g6 ≠ g3 := by omega
    have neg6g4 : g6 ≠ g4 := by omega
    have neg7g3 : g7 ≠ g3 := by omega
    have neg7g4 : g7 ≠ g4 := by omega
    have negxg3 : gx ≠ g3 := by omega
    have negxg4 : gx ≠ g4 := by omega
    have negyg3 : gy ≠ g3 := by omega
    have negyg4 : gy ≠ g4 := by omega
    have neg3g4 : g3 ≠ g4 := by omega
    have mm3 : g0 ≤ g3 := by omega
    have mm4 : g0 ≤ g4 := by omega
    have z0 : g0 ≤ V2.heap.size := by omega
    have z3 : g3 < V2.heap.size := by omega
    have z4 : g4 < V2.heap.size := by omega
    clear Z0 i0 i1 i2 i3 i4 i5 i6 i7
    rcases ok with _ | _
    · go_wp2_with fail
      refine wp_region_noPanic ?_
      refine wp_region_held_drew (S := fun w' => w'.cell? ⟨g0, 0, none⟩ = some (.int .i64 px) ∧ w'.cell? ⟨g0, 1, none⟩ = some (.int .i64 py) ∧ w'.cell? ⟨gx, 0, none⟩ = some (.int .i64 (qx - px)) ∧ w'.cell? ⟨gy, 0, none⟩ = some (.int .i64 (qy - py)) ∧ w'.cell? ⟨g5, 0, none⟩ = some (.int .i64 ln) ∧ w'.cell? ⟨g5, 1, none⟩ = some (.int .i64 ld) ∧ w'.cell? ⟨g6, 0, none⟩ = some (.int .i64 hn) ∧ w'.cell? ⟨g6, 1, none⟩ = some (.int .i64 hd) ∧ w'.cell? ⟨g7, 0, none⟩ = some (.bool false)) (by kernel_rfl) ?_ (fun hHeld => ?_)
      · exact ⟨c0, c1, cx, cy, l0, l1, h0, h1, o0⟩
      have BB : Hid (Below g0 w V2.drew) := Lib.hid BV2.out.drew
      have z0 : g0 ≤ V2.drew.heap.size := z0
      have R0 : Hid (V2.drew.heap[g3]? = _) := Lib.hid WV2.out.r; have T0 : Hid (V2.drew.heap[g4]? = _) := Lib.hid WV2.out.t
      clear r0 r1 t0 t1 rf0 rf1 tf0 tf1 z3 z4 c0 c1 cx cy l0 l1 h0 h1 o0
      generalize V2.drew = u at *
      refine wpAnyH_take (i := 0) (oi := _) (v := ?_) rfl (by kernel_rfl) (by kernel_rfl) (by kernel_rfl) (fun _ _ _ h => h) (Or.inl ⟨by rfl, ?_⟩) (by assumption) ?_
      rotate_left
      · intro w hSw; (try dsimp only at hSw); go_simp; all_goals (with_reducible rfl)
      try simp only [Act.put, List.setIfInBounds_toArray, List.set_cons_zero, List.set_cons_succ]
      refine wpAnyH_take (i := 1) (oi := _) (v := ?_) rfl (by kernel_rfl) (by kernel_rfl) (by kernel_rfl) (fun _ _ _ h => h) (Or.inl ⟨by rfl, ?_⟩) (by assumption) ?_
      rotate_left
      · intro w hSw; (try dsimp only at hSw); go_simp; all_goals (with_reducible rfl)
      try simp only [Act.put, List.setIfInBounds_toArray, List.set_cons_zero, List.set_cons_succ]
      refine wpAnyH_take (i := 4) (oi := _) (v := ?_) rfl (by kernel_rfl) (by kernel_rfl) (by kernel_rfl) (fun _ _ _ h => h) (Or.inl ⟨by rfl, ?_⟩) (by assumption) ?_
      rotate_left
      · intro w hSw; (try dsimp only at hSw); go_simp; all_goals (with_reducible rfl)
      try simp only [Act.put, List.setIfInBounds_toArray, List.set_cons_zero, List.set_cons_succ]
      refine wpAnyH_take (i := 5) (oi := _) (v := ?_) rfl (by kernel_rfl) (by kernel_rfl) (by kernel_rfl) (fun _ _ _ h => h) (Or.inl ⟨by rfl, ?_⟩) (by assumption) ?_
      rotate_left
      · intro w hSw; (try dsimp only at hSw); go_simp; all_goals (with_reducible rfl)
      try simp only [Act.put, List.setIfInBounds_toArray, List.set_cons_zero, List.set_cons_succ]
      refine wpAnyH_take (i := 8) (oi := _) (v := ?_) rfl (by kernel_rfl) (by kernel_rfl) (by kernel_rfl) (fun _ _ _ h => h) (Or.inl ⟨by rfl, ?_⟩) (by assumption) ?_
      rotate_left
      · intro w hSw; (try dsimp only at hSw); go_simp; all_goals (with_reducible rfl)
      try simp only [Act.put, List.setIfInBounds_toArray, List.set_cons_zero, List.set_cons_succ]
      refine wpAnyH_ready (rs := [2, 6]) (by kernel_rfl) (by simp) ?_
      refine AllReadyH.cons (o := _) rfl (fun K hK => ?_) (AllReadyH.cons (o := _) rfl (fun K hK => ?_) AllReadyH.nil)
      · skip
        go_simp
        refine hK.out _ _ (hHeld) (fun hHeld2 => ?_)
        clear hK K hHeld
        have hHeld := hHeld2; clear hHeld2
        try simp only [Act.put, List.setIfInBounds_toArray, List.set_cons_zero, List.set_cons_succ]
        refine wpAnyH_ready (rs := [3, 6]) (by kernel_rfl) (by simp) ?_
        refine AllReadyH.cons (o := _) rfl (fun K hK => ?_) (AllReadyH.cons (o := _) rfl (fun K hK => ?_) AllReadyH.nil)
        · skip
          go_simp
          have hz := lt_of_block R0.out; have hz2 := lt_of_block T0.out
          refine (AR.out _ _ SL.out _ hHeld.1 hHeld.2.1 hHeld.2.2.1 hHeld.2.2.2.1).mono ?_
          rintro e u3 ⟨rfl, hb⟩
          have hN : u3.cell? ⟨g0, 0, none⟩ = some (.int .i64 px) ∧ u3.cell? ⟨g0, 1, none⟩ = some (.int .i64 py) ∧ u3.cell? ⟨gx, 0, none⟩ = some (.int .i64 (qx - px)) ∧ u3.cell? ⟨gy, 0, none⟩ = some (.int .i64 (qy - py)) ∧ u3.cell? ⟨g5, 0, none⟩ = some (.int .i64 ln) ∧ u3.cell? ⟨g5, 1, none⟩ = some (.int .i64 ld) ∧ u3.cell? ⟨g6, 0, none⟩ = some (.int .i64 hn) ∧ u3.cell? ⟨g6, 1, none⟩ = some (.int .i64 hd) ∧ u3.cell? ⟨g7, 0, none⟩ = some (.bool false) := by
            obtain ⟨c0, c1, cx, cy, l0, l1, h0, h1, o0⟩ := hHeld
            exact ⟨(hb.cell (World.block_lt_of_cell? _ _ c0)).trans c0, (hb.cell (World.block_lt_of_cell? _ _ c1)).trans c1, (hb.cell (World.block_lt_of_cell? _ _ cx)).trans cx, (hb.cell (World.block_lt_of_cell? _ _ cy)).trans cy, (hb.cell (World.block_lt_of_cell? _ _ l0)).trans l0, (hb.cell (World.block_lt_of_cell? _ _ l1)).trans l1, (hb.cell (World.block_lt_of_cell? _ _ h0)).trans h0, (hb.cell (World.block_lt_of_cell? _ _ h1)).trans h1, (hb.cell (World.block_lt_of_cell? _ _ o0)).trans o0⟩
          have BB := Lib.hid (BB.out.trans (hb.mono z0)); have z0 := Nat.le_trans z0 hb.size; have R0 := Lib.hid ((hb.block _ hz).trans R0.out); have T0 := Lib.hid ((hb.block _ hz2).trans T0.out); clear hb hz hz2
          refine hK.out _ _ (hN) (fun hHeld2 => ?_)
          clear hK K hHeld
          have hHeld := hHeld2; clear hHeld2
          try simp only [Act.put, List.setIfInBounds_toArray, List.set_cons_zero, List.set_cons_succ]
          refine wpAnyH_ready (rs := [6]) (by kernel_rfl) (by simp) ?_
          refine AllReadyH.cons (o := _) rfl (fun K hK => ?_) AllReadyH.nil
          go_simp
          refine hK.out _ _ (hHeld) (fun hHeld2 => ?_)
          clear hK K hHeld
          have hHeld := hHeld2; clear hHeld2
          try simp only [Act.put, List.setIfInBounds_toArray, List.set_cons_zero, List.set_cons_succ]
          refine wpAnyH_ready (rs := [7]) (by kernel_rfl) (by simp) ?_
          refine AllReadyH.cons (o := _) rfl (fun K hK => ?_) AllReadyH.nil
          go_simp
          have hz := lt_of_block R0.out; have hz2 := lt_of_block T0.out
          refine (AR.out _ _ SH.out _ hHeld.1 hHeld.2.1 hHeld.2.2.1 hHeld.2.2.2.1).mono ?_
          rintro e u7 ⟨rfl, hb⟩
          have hN : u7.cell? ⟨g0, 0, none⟩ = some (.int .i64 px) ∧ u7.cell? ⟨g0, 1, none⟩ = some (.int .i64 py) ∧ u7.cell? ⟨gx, 0, none⟩ = some (.int .i64 (qx - px)) ∧ u7.cell? ⟨gy, 0, none⟩ = some (.int .i64 (qy - py)) ∧ u7.cell? ⟨g5, 0, none⟩ = some (.int .i64 ln) ∧ u7.cell? ⟨g5, 1, none⟩ = some (.int .i64 ld) ∧ u7.cell? ⟨g6, 0, none⟩ = some (.int .i64 hn) ∧ u7.cell? ⟨g6, 1, none⟩ = some (.int .i64 hd) ∧ u7.cell? ⟨g7, 0, none⟩ = some (.bool false) := by
            obtain ⟨c0, c1, cx, cy, l0, l1, h0, h1, o0⟩ := hHeld
            exact ⟨(hb.cell (World.block_lt_of_cell? _ _ c0)).trans c0, (hb.cell (World.block_lt_of_cell? _ _ c1)).trans c1, (hb.cell (World.block_lt_of_cell? _ _ cx)).trans cx, (hb.cell (World.block_lt_of_cell? _ _ cy)).trans cy, (hb.cell (World.block_lt_of_cell? _ _ l0)).trans l0, (hb.cell (World.block_lt_of_cell? _ _ l1)).trans l1, (hb.cell (World.block_lt_of_cell? _ _ h0)).trans h0, (hb.cell (World.block_lt_of_cell? _ _ h1)).trans h1, (hb.cell (World.block_lt_of_cell? _ _ o0)).trans o0⟩
          have BB := Lib.hid (BB.out.trans (hb.mono z0)); have z0 := Nat.le_trans z0 hb.size; have R0 := Lib.hid ((hb.block _ hz).trans R0.out); have T0 := Lib.hid ((hb.block _ hz2).trans T0.out); clear hb hz hz2
          refine hK.out _ _ (hN) (fun hHeld2 => ?_)
          clear hK K hHeld
          have hHeld := hHeld2; clear hHeld2
          try simp only [Act.put, List.setIfInBounds_toArray, List.set_cons_zero, List.set_cons_succ]
          refine wpAnyH_take (i := 9) (oi := _) (v := ?_) rfl (by kernel_rfl) (by kernel_rfl) (by kernel_rfl) (fun _ _ _ h => h) (Or.inl ⟨by rfl, ?_⟩) (by assumption) ?_
          rotate_left
          · intro w hSw; (try dsimp only at hSw); go_simp; all_goals (with_reducible rfl)
          try simp only [Act.put, List.setIfInBounds_toArray, List.set_cons_zero, List.set_cons_succ]
          refine wpAnyH_take (i := 10) (oi := _) (v := undef) rfl (by kernel_rfl) (by kernel_rfl) (by kernel_rfl) (fun _ _ _ h => h) (Or.inr ⟨?_, rfl⟩) (by assumption) ?_
          · simp [Region.wanted, yielded]
          try simp only [Act.put, List.setIfInBounds_toArray, List.set_cons_zero, List.set_cons_succ]
          refine wpAnyH_take (i := 11) (oi := _) (v := undef) rfl (by kernel_rfl) (by kernel_rfl) (by kernel_rfl) (fun _ _ _ h => h) (Or.inr ⟨?_, rfl⟩) (by assumption) ?_
          · simp [Region.wanted, yielded]
          try simp only [Act.put, List.setIfInBounds_toArray, List.set_cons_zero, List.set_cons_succ]
          refine wpAnyH_ready (rs := [12]) (by kernel_rfl) (by simp) ?_
          refine AllReadyH.cons (o := _) rfl (fun K hK => ?_) AllReadyH.nil
          go_simp
          refine hK.out _ _ (hHeld) (fun hHeld2 => ?_)
          clear hK K hHeld
          have hHeld := hHeld2; clear hHeld2
          try simp only [Act.put, List.setIfInBounds_toArray, List.set_cons_zero, List.set_cons_succ]
          refine wpAnyH_take (i := 13) (oi := _) (v := undef) rfl (by kernel_rfl) (by kernel_rfl) (by kernel_rfl) (fun _ _ _ h => h) (Or.inr ⟨?_, rfl⟩) (by assumption) ?_
          · simp [Region.wanted, yielded]
          try simp only [Act.put, List.setIfInBounds_toArray, List.set_cons_zero, List.set_cons_succ]
          refine wpAnyH_take (i := 14) (oi := _) (v := ?_) rfl (by kernel_rfl) (by kernel_rfl) (by kernel_rfl) (fun _ _ _ h => h) (Or.inl ⟨by rfl, ?_⟩) (by assumption) ?_
          rotate_left
          · intro w hSw; (try dsimp only at hSw); go_simp; all_goals (with_reducible rfl)
          try simp only [Act.put, List.setIfInBounds_toArray, List.set_cons_zero, List.set_cons_succ]
          obtain ⟨r0, r1⟩ := cell_two R0.out; have rf0 := free_blk R0.out 0; have rf1 := free_blk R0.out 1
          refine wpAnyH_ready (rs := [15]) (by kernel_rfl) (by simp) ?_
          refine AllReadyH.cons (o := _) rfl (fun K hK => ?_) AllReadyH.nil
          go_simp
          have R1 : Hid (((u7.setCell ⟨g3, 0, none⟩ (.int .i64 (px + Cl.rround ⟨ln, ld⟩ (qx - px)))).setCell ⟨g3, 1, none⟩ (.int .i64 (py + Cl.rround ⟨ln, ld⟩ (qy - py)))).heap[g3]? = _) := Lib.hid (set_two R0.out (.int .i64 (px + Cl.rround ⟨ln, ld⟩ (qx - px))) (.int .i64 (py + Cl.rround ⟨ln, ld⟩ (qy - py)))); have T1 : Hid (((u7.setCell ⟨g3, 0, none⟩ (.int .i64 (px + Cl.rround ⟨ln, ld⟩ (qx - px)))).setCell ⟨g3, 1, none⟩ (.int .i64 (py + Cl.rround ⟨ln, ld⟩ (qy - py)))).heap[g4]? = _) := Lib.hid ((blk_two u7 g3 g4 (.int .i64 (px + Cl.rround ⟨ln, ld⟩ (qx - px))) (.int .i64 (py + Cl.rround ⟨ln, ld⟩ (qy - py))) (Ne.symm neg3g4)).trans T0.out)
          have BB1 : Hid (Below g0 w ((u7.setCell ⟨g3, 0, none⟩ (.int .i64 (px + Cl.rround ⟨ln, ld⟩ (qx - px)))).setCell ⟨g3, 1, none⟩ (.int .i64 (py + Cl.rround ⟨ln, ld⟩ (qy - py))))) := Lib.hid ((BB.out.setCell (by simp; omega) _).setCell (by simp; omega) _)
          refine hK.out _ _ (by obtain ⟨c0, c1, cx, cy, l0, l1, h0, h1, o0⟩ := hHeld; exact ⟨((cell_far _ _ _ _ neg0g3).trans (cell_far _ _ _ _ neg0g3)).trans c0, ((cell_far _ _ _ _ neg0g3).trans (cell_far _ _ _ _ neg0g3)).trans c1, ((cell_far _ _ _ _ negxg3).trans (cell_far _ _ _ _ negxg3)).trans cx, ((cell_far _ _ _ _ negyg3).trans (cell_far _ _ _ _ negyg3)).trans cy, ((cell_far _ _ _ _ neg5g3).trans (cell_far _ _ _ _ neg5g3)).trans l0, ((cell_far _ _ _ _ neg5g3).trans (cell_far _ _ _ _ neg5g3)).trans l1, ((cell_far _ _ _ _ neg6g3).trans (cell_far _ _ _ _ neg6g3)).trans h0, ((cell_far _ _ _ _ neg6g3).trans (cell_far _ _ _ _ neg6g3)).trans h1, ((cell_far _ _ _ _ neg7g3).trans (cell_far _ _ _ _ neg7g3)).trans o0⟩) (fun hHeld2 => ?_)
          clear hK K hHeld
          have hHeld := hHeld2; clear hHeld2
          try simp only [Act.put, List.setIfInBounds_toArray, List.set_cons_zero, List.set_cons_succ]
          clear r0 r1 rf0 rf1 R0 T0 BB
          generalize ((u7.setCell ⟨g3, 0, none⟩ (.int .i64 (px + Cl.rround ⟨ln, ld⟩ (qx - px)))).setCell ⟨g3, 1, none⟩ (.int .i64 (py + Cl.rround ⟨ln, ld⟩ (qy - py)))) = v15 at *
          have R0 := R1; have T0 := T1; have BB := BB1; clear R1 T1 BB1
          obtain ⟨r0, r1⟩ := cell_two T0.out; have rf0 := free_blk T0.out 0; have rf1 := free_blk T0.out 1
          refine wpAnyH_ready (rs := [16]) (by kernel_rfl) (by simp) ?_
          refine AllReadyH.cons (o := _) rfl (fun K hK => ?_) AllReadyH.nil
          go_simp
          have R1 : Hid (((v15.setCell ⟨g4, 0, none⟩ (.int .i64 (px + Cl.rround ⟨hn, hd⟩ (qx - px)))).setCell ⟨g4, 1, none⟩ (.int .i64 (py + Cl.rround ⟨hn, hd⟩ (qy - py)))).heap[g4]? = _) := Lib.hid (set_two T0.out (.int .i64 (px + Cl.rround ⟨hn, hd⟩ (qx - px))) (.int .i64 (py + Cl.rround ⟨hn, hd⟩ (qy - py)))); have T1 : Hid (((v15.setCell ⟨g4, 0, none⟩ (.int .i64 (px + Cl.rround ⟨hn, hd⟩ (qx - px)))).setCell ⟨g4, 1, none⟩ (.int .i64 (py + Cl.rround ⟨hn, hd⟩ (qy - py)))).heap[g3]? = _) := Lib.hid ((blk_two v15 g4 g3 (.int .i64 (px + Cl.rround ⟨hn, hd⟩ (qx - px))) (.int .i64 (py + Cl.rround ⟨hn, hd⟩ (qy - py))) neg3g4).trans R0.out)
          have BB1 : Hid (Below g0 w ((v15.setCell ⟨g4, 0, none⟩ (.int .i64 (px + Cl.rround ⟨hn, hd⟩ (qx - px)))).setCell ⟨g4, 1, none⟩ (.int .i64 (py + Cl.rround ⟨hn, hd⟩ (qy - py))))) := Lib.hid ((BB.out.setCell (by simp; omega) _).setCell (by simp; omega) _)
          refine hK.out _ _ (by obtain ⟨c0, c1, cx, cy, l0, l1, h0, h1, o0⟩ := hHeld; exact ⟨((cell_far _ _ _ _ neg0g4).trans (cell_far _ _ _ _ neg0g4)).trans c0, ((cell_far _ _ _ _ neg0g4).trans (cell_far _ _ _ _ neg0g4)).trans c1, ((cell_far _ _ _ _ negxg4).trans (cell_far _ _ _ _ negxg4)).trans cx, ((cell_far _ _ _ _ negyg4).trans (cell_far _ _ _ _ negyg4)).trans cy, ((cell_far _ _ _ _ neg5g4).trans (cell_far _ _ _ _ neg5g4)).trans l0, ((cell_far _ _ _ _ neg5g4).trans (cell_far _ _ _ _ neg5g4)).trans l1, ((cell_far _ _ _ _ neg6g4).trans (cell_far _ _ _ _ neg6g4)).trans h0, ((cell_far _ _ _ _ neg6g4).trans (cell_far _ _ _ _ neg6g4)).trans h1, ((cell_far _ _ _ _ neg7g4).trans (cell_far _ _ _ _ neg7g4)).trans o0⟩) (fun hHeld2 => ?_)
          clear hK K hHeld
          have hHeld := hHeld2; clear hHeld2
          try simp only [Act.put, List.setIfInBounds_toArray, List.set_cons_zero, List.set_cons_succ]
          clear r0 r1 rf0 rf1 R0 T0 BB
          generalize ((v15.setCell ⟨g4, 0, none⟩ (.int .i64 (px + Cl.rround ⟨hn, hd⟩ (qx - px)))).setCell ⟨g4, 1, none⟩ (.int .i64 (py + Cl.rround ⟨hn, hd⟩ (qy - py)))) = v16 at *
          have T0 := R1; have R0 := T1; have BB := BB1; clear R1 T1 BB1
          refine wpAnyH_ready (rs := [17]) (by kernel_rfl) (by simp) ?_
          refine AllReadyH.cons (o := _) rfl (fun K hK => ?_) AllReadyH.nil
          go_simp
          refine hK.out _ _ (hHeld) (fun hHeld2 => ?_)
          clear hK K hHeld
          have hHeld := hHeld2; clear hHeld2
          try simp only [Act.put, List.setIfInBounds_toArray, List.set_cons_zero, List.set_cons_succ]
          refine wpAnyH_done (by kernel_rfl) ?_ _
          refine NoPanic.normal ?_
          go_wp2
          obtain ⟨r0, r1⟩ := cell_two R0.out; obtain ⟨t0, t1⟩ := cell_two T0.out
          refine bodyPost_ret (v := .tuple #[.agg #[.int .i64 (px + Cl.rround ⟨ln, ld⟩ (qx - px)), .int .i64 (py + Cl.rround ⟨ln, ld⟩ (qy - py))], .agg #[.int .i64 (px + Cl.rround ⟨hn, hd⟩ (qx - px)), .int .i64 (py + Cl.rround ⟨hn, hd⟩ (qy - py))], .bool false]) (by simp [results, Try.results29, go_sem, r0, r1, t0, t1]) rfl ⟨?_, ?_⟩
          · rw [HPA.out, HPB.out, HOK.out]; rfl
          · have := hw0.out; subst this; exact BB.out
        · skip
          go_simp
          refine hK.out _ _ (hHeld) (fun hHeld2 => ?_)
          clear hK K hHeld
          have hHeld := hHeld2; clear hHeld2
          try simp only [Act.put, List.setIfInBounds_toArray, List.set_cons_zero, List.set_cons_succ]
          refine wpAnyH_ready (rs := [3]) (by kernel_rfl) (by simp) ?_
          refine AllReadyH.cons (o := _) rfl (fun K hK => ?_) AllReadyH.nil
          go_simp
          have hz := lt_of_block R0.out; have hz2 := lt_of_block T0.out
          refine (AR.out _ _ SL.out _ hHeld.1 hHeld.2.1 hHeld.2.2.1 hHeld.2.2.2.1).mono ?_
          rintro e u3 ⟨rfl, hb⟩
          have hN : u3.cell? ⟨g0, 0, none⟩ = some (.int .i64 px) ∧ u3.cell? ⟨g0, 1, none⟩ = some (.int .i64 py) ∧ u3.cell? ⟨gx, 0, none⟩ = some (.int .i64 (qx - px)) ∧ u3.cell? ⟨gy, 0, none⟩ = some (.int .i64 (qy - py)) ∧ u3.cell? ⟨g5, 0, none⟩ = some (.int .i64 ln) ∧ u3.cell? ⟨g5, 1, none⟩ = some (.int .i64 ld) ∧ u3.cell? ⟨g6, 0, none⟩ = some (.int .i64 hn) ∧ u3.cell? ⟨g6, 1, none⟩ = some (.int .i64 hd) ∧ u3.cell? ⟨g7, 0, none⟩ = some (.bool false) := by
            obtain ⟨c0, c1, cx, cy, l0, l1, h0, h1, o0⟩ := hHeld
            exact ⟨(hb.cell (World.block_lt_of_cell? _ _ c0)).trans c0, (hb.cell (World.block_lt_of_cell? _ _ c1)).trans c1, (hb.cell (World.block_lt_of_cell? _ _ cx)).trans cx, (hb.cell (World.block_lt_of_cell? _ _ cy)).trans cy, (hb.cell (World.block_lt_of_cell? _ _ l0)).trans l0, (hb.cell (World.block_lt_of_cell? _ _ l1)).trans l1, (hb.cell (World.block_lt_of_cell? _ _ h0)).trans h0, (hb.cell (World.block_lt_of_cell? _ _ h1)).trans h1, (hb.cell (World.block_lt_of_cell? _ _ o0)).trans o0⟩
          have BB := Lib.hid (BB.out.trans (hb.mono z0)); have z0 := Nat.le_trans z0 hb.size; have R0 := Lib.hid ((hb.block _ hz).trans R0.out); have T0 := Lib.hid ((hb.block _ hz2).trans T0.out); clear hb hz hz2
          refine hK.out _ _ (hN) (fun hHeld2 => ?_)
          clear hK K hHeld
          have hHeld := hHeld2; clear hHeld2
          try simp only [Act.put, List.setIfInBounds_toArray, List.set_cons_zero, List.set_cons_succ]
          refine wpAnyH_ready (rs := [7]) (by kernel_rfl) (by simp) ?_
          refine AllReadyH.cons (o := _) rfl (fun K hK => ?_) AllReadyH.nil
          go_simp
          have hz := lt_of_block R0.out; have hz2 := lt_of_block T0.out
          refine (AR.out _ _ SH.out _ hHeld.1 hHeld.2.1 hHeld.2.2.1 hHeld.2.2.2.1).mono ?_
          rintro e u7 ⟨rfl, hb⟩
          have hN : u7.cell? ⟨g0, 0, none⟩ = some (.int .i64 px) ∧ u7.cell? ⟨g0, 1, none⟩ = some (.int .i64 py) ∧ u7.cell? ⟨gx, 0, none⟩ = some (.int .i64 (qx - px)) ∧ u7.cell? ⟨gy, 0, none⟩ = some (.int .i64 (qy - py)) ∧ u7.cell? ⟨g5, 0, none⟩ = some (.int .i64 ln) ∧ u7.cell? ⟨g5, 1, none⟩ = some (.int .i64 ld) ∧ u7.cell? ⟨g6, 0, none⟩ = some (.int .i64 hn) ∧ u7.cell? ⟨g6, 1, none⟩ = some (.int .i64 hd) ∧ u7.cell? ⟨g7, 0, none⟩ = some (.bool false) := by
            obtain ⟨c0, c1, cx, cy, l0, l1, h0, h1, o0⟩ := hHeld
            exact ⟨(hb.cell (World.block_lt_of_cell? _ _ c0)).trans c0, (hb.cell (World.block_lt_of_cell? _ _ c1)).trans c1, (hb.cell (World.block_lt_of_cell? _ _ cx)).trans cx, (hb.cell (World.block_lt_of_cell? _ _ cy)).trans cy, (hb.cell (World.block_lt_of_cell? _ _ l0)).trans l0, (hb.cell (World.block_lt_of_cell? _ _ l1)).trans l1, (hb.cell (World.block_lt_of_cell? _ _ h0)).trans h0, (hb.cell (World.block_lt_of_cell? _ _ h1)).trans h1, (hb.cell (World.block_lt_of_cell? _ _ o0)).trans o0⟩
          have BB := Lib.hid (BB.out.trans (hb.mono z0)); have z0 := Nat.le_trans z0 hb.size; have R0 := Lib.hid ((hb.block _ hz).trans R0.out); have T0 := Lib.hid ((hb.block _ hz2).trans T0.out); clear hb hz hz2
          refine hK.out _ _ (hN) (fun hHeld2 => ?_)
          clear hK K hHeld
          have hHeld := hHeld2; clear hHeld2
          try simp only [Act.put, List.setIfInBounds_toArray, List.set_cons_zero, List.set_cons_succ]
          refine wpAnyH_take (i := 9) (oi := _) (v := ?_) rfl (by kernel_rfl) (by kernel_rfl) (by kernel_rfl) (fun _ _ _ h => h) (Or.inl ⟨by rfl, ?_⟩) (by assumption) ?_
          rotate_left
          · intro w hSw; (try dsimp only at hSw); go_simp; all_goals (with_reducible rfl)
          try simp only [Act.put, List.setIfInBounds_toArray, List.set_cons_zero, List.set_cons_succ]
          refine wpAnyH_take (i := 10) (oi := _) (v := undef) rfl (by kernel_rfl) (by kernel_rfl) (by kernel_rfl) (fun _ _ _ h => h) (Or.inr ⟨?_, rfl⟩) (by assumption) ?_
          · simp [Region.wanted, yielded]
          try simp only [Act.put, List.setIfInBounds_toArray, List.set_cons_zero, List.set_cons_succ]
          refine wpAnyH_take (i := 11) (oi := _) (v := undef) rfl (by kernel_rfl) (by kernel_rfl) (by kernel_rfl) (fun _ _ _ h => h) (Or.inr ⟨?_, rfl⟩) (by assumption) ?_
          · simp [Region.wanted, yielded]
          try simp only [Act.put, List.setIfInBounds_toArray, List.set_cons_zero, List.set_cons_succ]
          refine wpAnyH_ready (rs := [12]) (by kernel_rfl) (by simp) ?_
          refine AllReadyH.cons (o := _) rfl (fun K hK => ?_) AllReadyH.nil
          go_simp
          refine hK.out _ _ (hHeld) (fun hHeld2 => ?_)
          clear hK K hHeld
          have hHeld := hHeld2; clear hHeld2
          try simp only [Act.put, List.setIfInBounds_toArray, List.set_cons_zero, List.set_cons_succ]
          refine wpAnyH_take (i := 13) (oi := _) (v := undef) rfl (by kernel_rfl) (by kernel_rfl) (by kernel_rfl) (fun _ _ _ h => h) (Or.inr ⟨?_, rfl⟩) (by assumption) ?_
          · simp [Region.wanted, yielded]
          try simp only [Act.put, List.setIfInBounds_toArray, List.set_cons_zero, List.set_cons_succ]
          refine wpAnyH_take (i := 14) (oi := _) (v := ?_) rfl (by kernel_rfl) (by kernel_rfl) (by kernel_rfl) (fun _ _ _ h => h) (Or.inl ⟨by rfl, ?_⟩) (by assumption) ?_
          rotate_left
          · intro w hSw; (try dsimp only at hSw); go_simp; all_goals (with_reducible rfl)
          try simp only [Act.put, List.setIfInBounds_toArray, List.set_cons_zero, List.set_cons_succ]
          obtain ⟨r0, r1⟩ := cell_two R0.out; have rf0 := free_blk R0.out 0; have rf1 := free_blk R0.out 1
          refine wpAnyH_ready (rs := [15]) (by kernel_rfl) (by simp) ?_
          refine AllReadyH.cons (o := _) rfl (fun K hK => ?_) AllReadyH.nil
          go_simp
          have R1 : Hid (((u7.setCell ⟨g3, 0, none⟩ (.int .i64 (px + Cl.rround ⟨ln, ld⟩ (qx - px)))).setCell ⟨g3, 1, none⟩ (.int .i64 (py + Cl.rround ⟨ln, ld⟩ (qy - py)))).heap[g3]? = _) := Lib.hid (set_two R0.out (.int .i64 (px + Cl.rround ⟨ln, ld⟩ (qx - px))) (.int .i64 (py + Cl.rround ⟨ln, ld⟩ (qy - py)))); have T1 : Hid (((u7.setCell ⟨g3, 0, none⟩ (.int .i64 (px + Cl.rround ⟨ln, ld⟩ (qx - px)))).setCell ⟨g3, 1, none⟩ (.int .i64 (py + Cl.rround ⟨ln, ld⟩ (qy - py)))).heap[g4]? = _) := Lib.hid ((blk_two u7 g3 g4 (.int .i64 (px + Cl.rround ⟨ln, ld⟩ (qx - px))) (.int .i64 (py + Cl.rround ⟨ln, ld⟩ (qy - py))) (Ne.symm neg3g4)).trans T0.out)
          have BB1 : Hid (Below g0 w ((u7.setCell ⟨g3, 0, none⟩ (.int .i64 (px + Cl.rround ⟨ln, ld⟩ (qx - px)))).setCell ⟨g3, 1, none⟩ (.int .i64 (py + Cl.rround ⟨ln, ld⟩ (qy - py))))) := Lib.hid ((BB.out.setCell (by simp; omega) _).setCell (by simp; omega) _)
          refine hK.out _ _ (by obtain ⟨c0, c1, cx, cy, l0, l1, h0, h1, o0⟩ := hHeld; exact ⟨((cell_far _ _ _ _ neg0g3).trans (cell_far _ _ _ _ neg0g3)).trans c0, ((cell_far _ _ _ _ neg0g3).trans (cell_far _ _ _ _ neg0g3)).trans c1, ((cell_far _ _ _ _ negxg3).trans (cell_far _ _ _ _ negxg3)).trans cx, ((cell_far _ _ _ _ negyg3).trans (cell_far _ _ _ _ negyg3)).trans cy, ((cell_far _ _ _ _ neg5g3).trans (cell_far _ _ _ _ neg5g3)).trans l0, ((cell_far _ _ _ _ neg5g3).trans (cell_far _ _ _ _ neg5g3)).trans l1, ((cell_far _ _ _ _ neg6g3).trans (cell_far _ _ _ _ neg6g3)).trans h0, ((cell_far _ _ _ _ neg6g3).trans (cell_far _ _ _ _ neg6g3)).trans h1, ((cell_far _ _ _ _ neg7g3).trans (cell_far _ _ _ _ neg7g3)).trans o0⟩) (fun hHeld2 => ?_)
          clear hK K hHeld
          have hHeld := hHeld2; clear hHeld2
          try simp only [Act.put, List.setIfInBounds_toArray, List.set_cons_zero, List.set_cons_succ]
          clear r0 r1 rf0 rf1 R0 T0 BB
          generalize ((u7.setCell ⟨g3, 0, none⟩ (.int .i64 (px + Cl.rround ⟨ln, ld⟩ (qx - px)))).setCell ⟨g3, 1, none⟩ (.int .i64 (py + Cl.rround ⟨ln, ld⟩ (qy - py)))) = v15 at *
          have R0 := R1; have T0 := T1; have BB := BB1; clear R1 T1 BB1
          obtain ⟨r0, r1⟩ := cell_two T0.out; have rf0 := free_blk T0.out 0; have rf1 := free_blk T0.out 1
          refine wpAnyH_ready (rs := [16]) (by kernel_rfl) (by simp) ?_
          refine AllReadyH.cons (o := _) rfl (fun K hK => ?_) AllReadyH.nil
          go_simp
          have R1 : Hid (((v15.setCell ⟨g4, 0, none⟩ (.int .i64 (px + Cl.rround ⟨hn, hd⟩ (qx - px)))).setCell ⟨g4, 1, none⟩ (.int .i64 (py + Cl.rround ⟨hn, hd⟩ (qy - py)))).heap[g4]? = _) := Lib.hid (set_two T0.out (.int .i64 (px + Cl.rround ⟨hn, hd⟩ (qx - px))) (.int .i64 (py + Cl.rround ⟨hn, hd⟩ (qy - py)))); have T1 : Hid (((v15.setCell ⟨g4, 0, none⟩ (.int .i64 (px + Cl.rround ⟨hn, hd⟩ (qx - px)))).setCell ⟨g4, 1, none⟩ (.int .i64 (py + Cl.rround ⟨hn, hd⟩ (qy - py)))).heap[g3]? = _) := Lib.hid ((blk_two v15 g4 g3 (.int .i64 (px + Cl.rround ⟨hn, hd⟩ (qx - px))) (.int .i64 (py + Cl.rround ⟨hn, hd⟩ (qy - py))) neg3g4).trans R0.out)
          have BB1 : Hid (Below g0 w ((v15.setCell ⟨g4, 0, none⟩ (.int .i64 (px + Cl.rround ⟨hn, hd⟩ (qx - px)))).setCell ⟨g4, 1, none⟩ (.int .i64 (py + Cl.rround ⟨hn, hd⟩ (qy - py))))) := Lib.hid ((BB.out.setCell (by simp; omega) _).setCell (by simp; omega) _)
          refine hK.out _ _ (by obtain ⟨c0, c1, cx, cy, l0, l1, h0, h1, o0⟩ := hHeld; exact ⟨((cell_far _ _ _ _ neg0g4).trans (cell_far _ _ _ _ neg0g4)).trans c0, ((cell_far _ _ _ _ neg0g4).trans (cell_far _ _ _ _ neg0g4)).trans c1, ((cell_far _ _ _ _ negxg4).trans (cell_far _ _ _ _ negxg4)).trans cx, ((cell_far _ _ _ _ negyg4).trans (cell_far _ _ _ _ negyg4)).trans cy, ((cell_far _ _ _ _ neg5g4).trans (cell_far _ _ _ _ neg5g4)).trans l0, ((cell_far _ _ _ _ neg5g4).trans (cell_far _ _ _ _ neg5g4)).trans l1, ((cell_far _ _ _ _ neg6g4).trans (cell_far _ _ _ _ neg6g4)).trans h0, ((cell_far _ _ _ _ neg6g4).trans (cell_far _ _ _ _ neg6g4)).trans h1, ((cell_far _ _ _ _ neg7g4).trans (cell_far _ _ _ _ neg7g4)).trans o0⟩) (fun hHeld2 => ?_)
          clear hK K hHeld
          have hHeld := hHeld2; clear hHeld2
          try simp only [Act.put, List.setIfInBounds_toArray, List.set_cons_zero, List.set_cons_succ]
          clear r0 r1 rf0 rf1 R0 T0 BB
          generalize ((v15.setCell ⟨g4, 0, none⟩ (.int .i64 (px + Cl.rround ⟨hn, hd⟩ (qx - px)))).setCell ⟨g4, 1, none⟩ (.int .i64 (py + Cl.rround ⟨hn, hd⟩ (qy - py)))) = v16 at *
          have T0 := R1; have R0 := T1; have BB := BB1; clear R1 T1 BB1
          refine wpAnyH_ready (rs := [17]) (by kernel_rfl) (by simp) ?_
          refine AllReadyH.cons (o := _) rfl (fun K hK => ?_) AllReadyH.nil
          go_simp
          refine hK.out _ _ (hHeld) (fun hHeld2 => ?_)
          clear hK K hHeld
          have hHeld := hHeld2; clear hHeld2
          try simp only [Act.put, List.setIfInBounds_toArray, List.set_cons_zero, List.set_cons_succ]
          refine wpAnyH_done (by kernel_rfl) ?_ _
          refine NoPanic.normal ?_
          go_wp2
          obtain ⟨r0, r1⟩ := cell_two R0.out; obtain ⟨t0, t1⟩ := cell_two T0.out
          refine bodyPost_ret (v := .tuple #[.agg #[.int .i64 (px + Cl.rround ⟨ln, ld⟩ (qx - px)), .int .i64 (py + Cl.rround ⟨ln, ld⟩ (qy - py))], .agg #[.int .i64 (px + Cl.rround ⟨hn, hd⟩ (qx - px)), .int .i64 (py + Cl.rround ⟨hn, hd⟩ (qy - py))], .bool false]) (by simp [results, Try.results29, go_sem, r0, r1, t0, t1]) rfl ⟨?_, ?_⟩
          · rw [HPA.out, HPB.out, HOK.out]; rfl
          · have := hw0.out; subst this; exact BB.out
      · skip
        go_simp
        refine hK.out _ _ (hHeld) (fun hHeld2 => ?_)
        clear hK K hHeld
        have hHeld := hHeld2; clear hHeld2
        try simp only [Act.put, List.setIfInBounds_toArray, List.set_cons_zero, List.set_cons_succ]
        refine wpAnyH_ready (rs := [2]) (by kernel_rfl) (by simp) ?_
        refine AllReadyH.cons (o := _) rfl (fun K hK => ?_) AllReadyH.nil
        go_simp
        refine hK.out _ _ (hHeld) (fun hHeld2 => ?_)
        clear hK K hHeld
        have hHeld := hHeld2; clear hHeld2
        try simp only [Act.put, List.setIfInBounds_toArray, List.set_cons_zero, List.set_cons_succ]
        refine wpAnyH_ready (rs := [3]) (by kernel_rfl) (by simp) ?_
        refine AllReadyH.cons (o := _) rfl (fun K hK => ?_) AllReadyH.nil
        go_simp
        have hz := lt_of_block R0.out; have hz2 := lt_of_block T0.out
        refine (AR.out _ _ SL.out _ hHeld.1 hHeld.2.1 hHeld.2.2.1 hHeld.2.2.2.1).mono ?_
        rintro e u3 ⟨rfl, hb⟩
        have hN : u3.cell? ⟨g0, 0, none⟩ = some (.int .i64 px) ∧ u3.cell? ⟨g0, 1, none⟩ = some (.int .i64 py) ∧ u3.cell? ⟨gx, 0, none⟩ = some (.int .i64 (qx - px)) ∧ u3.cell? ⟨gy, 0, none⟩ = some (.int .i64 (qy - py)) ∧ u3.cell? ⟨g5, 0, none⟩ = some (.int .i64 ln) ∧ u3.cell? ⟨g5, 1, none⟩ = some (.int .i64 ld) ∧ u3.cell? ⟨g6, 0, none⟩ = some (.int .i64 hn) ∧ u3.cell? ⟨g6, 1, none⟩ = some (.int .i64 hd) ∧ u3.cell? ⟨g7, 0, none⟩ = some (.bool false) := by
          obtain ⟨c0, c1, cx, cy, l0, l1, h0, h1, o0⟩ := hHeld
          exact ⟨(hb.cell (World.block_lt_of_cell? _ _ c0)).trans c0, (hb.cell (World.block_lt_of_cell? _ _ c1)).trans c1, (hb.cell (World.block_lt_of_cell? _ _ cx)).trans cx, (hb.cell (World.block_lt_of_cell? _ _ cy)).trans cy, (hb.cell (World.block_lt_of_cell? _ _ l0)).trans l0, (hb.cell (World.block_lt_of_cell? _ _ l1)).trans l1, (hb.cell (World.block_lt_of_cell? _ _ h0)).trans h0, (hb.cell (World.block_lt_of_cell? _ _ h1)).trans h1, (hb.cell (World.block_lt_of_cell? _ _ o0)).trans o0⟩
        have BB := Lib.hid (BB.out.trans (hb.mono z0)); have z0 := Nat.le_trans z0 hb.size; have R0 := Lib.hid ((hb.block _ hz).trans R0.out); have T0 := Lib.hid ((hb.block _ hz2).trans T0.out); clear hb hz hz2
        refine hK.out _ _ (hN) (fun hHeld2 => ?_)
        clear hK K hHeld
        have hHeld := hHeld2; clear hHeld2
        try simp only [Act.put, List.setIfInBounds_toArray, List.set_cons_zero, List.set_cons_succ]
        refine wpAnyH_ready (rs := [7]) (by kernel_rfl) (by simp) ?_
        refine AllReadyH.cons (o := _) rfl (fun K hK => ?_) AllReadyH.nil
        go_simp
        have hz := lt_of_block R0.out; have hz2 := lt_of_block T0.out
        refine (AR.out _ _ SH.out _ hHeld.1 hHeld.2.1 hHeld.2.2.1 hHeld.2.2.2.1).mono ?_
        rintro e u7 ⟨rfl, hb⟩
        have hN : u7.cell? ⟨g0, 0, none⟩ = some (.int .i64 px) ∧ u7.cell? ⟨g0, 1, none⟩ = some (.int .i64 py) ∧ u7.cell? ⟨gx, 0, none⟩ = some (.int .i64 (qx - px)) ∧ u7.cell? ⟨gy, 0, none⟩ = some (.int .i64 (qy - py)) ∧ u7.cell? ⟨g5, 0, none⟩ = some (.int .i64 ln) ∧ u7.cell? ⟨g5, 1, none⟩ = some (.int .i64 ld) ∧ u7.cell? ⟨g6, 0, none⟩ = some (.int .i64 hn) ∧ u7.cell? ⟨g6, 1, none⟩ = some (.int .i64 hd) ∧ u7.cell? ⟨g7, 0, none⟩ = some (.bool false) := by
          obtain ⟨c0, c1, cx, cy, l0, l1, h0, h1, o0⟩ := hHeld
          exact ⟨(hb.cell (World.block_lt_of_cell? _ _ c0)).trans c0, (hb.cell (World.block_lt_of_cell? _ _ c1)).trans c1, (hb.cell (World.block_lt_of_cell? _ _ cx)).trans cx, (hb.cell (World.block_lt_of_cell? _ _ cy)).trans cy, (hb.cell (World.block_lt_of_cell? _ _ l0)).trans l0, (hb.cell (World.block_lt_of_cell? _ _ l1)).trans l1, (hb.cell (World.block_lt_of_cell? _ _ h0)).trans h0, (hb.cell (World.block_lt_of_cell? _ _ h1)).trans h1, (hb.cell (World.block_lt_of_cell? _ _ o0)).trans o0⟩
        have BB := Lib.hid (BB.out.trans (hb.mono z0)); have z0 := Nat.le_trans z0 hb.size; have R0 := Lib.hid ((hb.block _ hz).trans R0.out); have T0 := Lib.hid ((hb.block _ hz2).trans T0.out); clear hb hz hz2
        refine hK.out _ _ (hN) (fun hHeld2 => ?_)
        clear hK K hHeld
        have hHeld := hHeld2; clear hHeld2
        try simp only [Act.put, List.setIfInBounds_toArray, List.set_cons_zero, List.set_cons_succ]
        refine wpAnyH_take (i := 9) (oi := _) (v := ?_) rfl (by kernel_rfl) (by kernel_rfl) (by kernel_rfl) (fun _ _ _ h => h) (Or.inl ⟨by rfl, ?_⟩) (by assumption) ?_
        rotate_left
        · intro w hSw; (try dsimp only at hSw); go_simp; all_goals (with_reducible rfl)
        try simp only [Act.put, List.setIfInBounds_toArray, List.set_cons_zero, List.set_cons_succ]
        refine wpAnyH_take (i := 10) (oi := _) (v := undef) rfl (by kernel_rfl) (by kernel_rfl) (by kernel_rfl) (fun _ _ _ h => h) (Or.inr ⟨?_, rfl⟩) (by assumption) ?_
        · simp [Region.wanted, yielded]
        try simp only [Act.put, List.setIfInBounds_toArray, List.set_cons_zero, List.set_cons_succ]
        refine wpAnyH_take (i := 11) (oi := _) (v := undef) rfl (by kernel_rfl) (by kernel_rfl) (by kernel_rfl) (fun _ _ _ h => h) (Or.inr ⟨?_, rfl⟩) (by assumption) ?_
        · simp [Region.wanted, yielded]
        try simp only [Act.put, List.setIfInBounds_toArray, List.set_cons_zero, List.set_cons_succ]
        refine wpAnyH_ready (rs := [12]) (by kernel_rfl) (by simp) ?_
        refine AllReadyH.cons (o := _) rfl (fun K hK => ?_) AllReadyH.nil
        go_simp
        refine hK.out _ _ (hHeld) (fun hHeld2 => ?_)
        clear hK K hHeld
        have hHeld := hHeld2; clear hHeld2
        try simp only [Act.put, List.setIfInBounds_toArray, List.set_cons_zero, List.set_cons_succ]
        refine wpAnyH_take (i := 13) (oi := _) (v := undef) rfl (by kernel_rfl) (by kernel_rfl) (by kernel_rfl) (fun _ _ _ h => h) (Or.inr ⟨?_, rfl⟩) (by assumption) ?_
        · simp [Region.wanted, yielded]
        try simp only [Act.put, List.setIfInBounds_toArray, List.set_cons_zero, List.set_cons_succ]
        refine wpAnyH_take (i := 14) (oi := _) (v := ?_) rfl (by kernel_rfl) (by kernel_rfl) (by kernel_rfl) (fun _ _ _ h => h) (Or.inl ⟨by rfl, ?_⟩) (by assumption) ?_
        rotate_left
        · intro w hSw; (try dsimp only at hSw); go_simp; all_goals (with_reducible rfl)
        try simp only [Act.put, List.setIfInBounds_toArray, List.set_cons_zero, List.set_cons_succ]
        obtain ⟨r0, r1⟩ := cell_two R0.out; have rf0 := free_blk R0.out 0; have rf1 := free_blk R0.out 1
        refine wpAnyH_ready (rs := [15]) (by kernel_rfl) (by simp) ?_
        refine AllReadyH.cons (o := _) rfl (fun K hK => ?_) AllReadyH.nil
        go_simp
        have R1 : Hid (((u7.setCell ⟨g3, 0, none⟩ (.int .i64 (px + Cl.rround ⟨ln, ld⟩ (qx - px)))).setCell ⟨g3, 1, none⟩ (.int .i64 (py + Cl.rround ⟨ln, ld⟩ (qy - py)))).heap[g3]? = _) := Lib.hid (set_two R0.out (.int .i64 (px + Cl.rround ⟨ln, ld⟩ (qx - px))) (.int .i64 (py + Cl.rround ⟨ln, ld⟩ (qy - py)))); have T1 : Hid (((u7.setCell ⟨g3, 0, none⟩ (.int .i64 (px + Cl.rround ⟨ln, ld⟩ (qx - px)))).setCell ⟨g3, 1, none⟩ (.int .i64 (py + Cl.rround ⟨ln, ld⟩ (qy - py)))).heap[g4]? = _) := Lib.hid ((blk_two u7 g3 g4 (.int .i64 (px + Cl.rround ⟨ln, ld⟩ (qx - px))) (.int .i64 (py + Cl.rround ⟨ln, ld⟩ (qy - py))) (Ne.symm neg3g4)).trans T0.out)
        have BB1 : Hid (Below g0 w ((u7.setCell ⟨g3, 0, none⟩ (.int .i64 (px + Cl.rround ⟨ln, ld⟩ (qx - px)))).setCell ⟨g3, 1, none⟩ (.int .i64 (py + Cl.rround ⟨ln, ld⟩ (qy - py))))) := Lib.hid ((BB.out.setCell (by simp; omega) _).setCell (by simp; omega) _)
        refine hK.out _ _ (by obtain ⟨c0, c1, cx, cy, l0, l1, h0, h1, o0⟩ := hHeld; exact ⟨((cell_far _ _ _ _ neg0g3).trans (cell_far _ _ _ _ neg0g3)).trans c0, ((cell_far _ _ _ _ neg0g3).trans (cell_far _ _ _ _ neg0g3)).trans c1, ((cell_far _ _ _ _ negxg3).trans (cell_far _ _ _ _ negxg3)).trans cx, ((cell_far _ _ _ _ negyg3).trans (cell_far _ _ _ _ negyg3)).trans cy, ((cell_far _ _ _ _ neg5g3).trans (cell_far _ _ _ _ neg5g3)).trans l0, ((cell_far _ _ _ _ neg5g3).trans (cell_far _ _ _ _ neg5g3)).trans l1, ((cell_far _ _ _ _ neg6g3).trans (cell_far _ _ _ _ neg6g3)).trans h0, ((cell_far _ _ _ _ neg6g3).trans (cell_far _ _ _ _ neg6g3)).trans h1, ((cell_far _ _ _ _ neg7g3).trans (cell_far _ _ _ _ neg7g3)).trans o0⟩) (fun hHeld2 => ?_)
        clear hK K hHeld
        have hHeld := hHeld2; clear hHeld2
        try simp only [Act.put, List.setIfInBounds_toArray, List.set_cons_zero, List.set_cons_succ]
        clear r0 r1 rf0 rf1 R0 T0 BB
        generalize ((u7.setCell ⟨g3, 0, none⟩ (.int .i64 (px + Cl.rround ⟨ln, ld⟩ (qx - px)))).setCell ⟨g3, 1, none⟩ (.int .i64 (py + Cl.rround ⟨ln, ld⟩ (qy - py)))) = v15 at *
        have R0 := R1; have T0 := T1; have BB := BB1; clear R1 T1 BB1
        obtain ⟨r0, r1⟩ := cell_two T0.out; have rf0 := free_blk T0.out 0; have rf1 := free_blk T0.out 1
        refine wpAnyH_ready (rs := [16]) (by kernel_rfl) (by simp) ?_
        refine AllReadyH.cons (o := _) rfl (fun K hK => ?_) AllReadyH.nil
        go_simp
        have R1 : Hid (((v15.setCell ⟨g4, 0, none⟩ (.int .i64 (px + Cl.rround ⟨hn, hd⟩ (qx - px)))).setCell ⟨g4, 1, none⟩ (.int .i64 (py + Cl.rround ⟨hn, hd⟩ (qy - py)))).heap[g4]? = _) := Lib.hid (set_two T0.out (.int .i64 (px + Cl.rround ⟨hn, hd⟩ (qx - px))) (.int .i64 (py + Cl.rround ⟨hn, hd⟩ (qy - py)))); have T1 : Hid (((v15.setCell ⟨g4, 0, none⟩ (.int .i64 (px + Cl.rround ⟨hn, hd⟩ (qx - px)))).setCell ⟨g4, 1, none⟩ (.int .i64 (py + Cl.rround ⟨hn, hd⟩ (qy - py)))).heap[g3]? = _) := Lib.hid ((blk_two v15 g4 g3 (.int .i64 (px + Cl.rround ⟨hn, hd⟩ (qx - px))) (.int .i64 (py + Cl.rround ⟨hn, hd⟩ (qy - py))) neg3g4).trans R0.out)
        have BB1 : Hid (Below g0 w ((v15.setCell ⟨g4, 0, none⟩ (.int .i64 (px + Cl.rround ⟨hn, hd⟩ (qx - px)))).setCell ⟨g4, 1, none⟩ (.int .i64 (py + Cl.rround ⟨hn, hd⟩ (qy - py))))) := Lib.hid ((BB.out.setCell (by simp; omega) _).setCell (by simp; omega) _)
        refine hK.out _ _ (by obtain ⟨c0, c1, cx, cy, l0, l1, h0, h1, o0⟩ := hHeld; exact ⟨((cell_far _ _ _ _ neg0g4).trans (cell_far _ _ _ _ neg0g4)).trans c0, ((cell_far _ _ _ _ neg0g4).trans (cell_far _ _ _ _ neg0g4)).trans c1, ((cell_far _ _ _ _ negxg4).trans (cell_far _ _ _ _ negxg4)).trans cx, ((cell_far _ _ _ _ negyg4).trans (cell_far _ _ _ _ negyg4)).trans cy, ((cell_far _ _ _ _ neg5g4).trans (cell_far _ _ _ _ neg5g4)).trans l0, ((cell_far _ _ _ _ neg5g4).trans (cell_far _ _ _ _ neg5g4)).trans l1, ((cell_far _ _ _ _ neg6g4).trans (cell_far _ _ _ _ neg6g4)).trans h0, ((cell_far _ _ _ _ neg6g4).trans (cell_far _ _ _ _ neg6g4)).trans h1, ((cell_far _ _ _ _ neg7g4).trans (cell_far _ _ _ _ neg7g4)).trans o0⟩) (fun hHeld2 => ?_)
        clear hK K hHeld
        have hHeld := hHeld2; clear hHeld2
        try simp only [Act.put, List.setIfInBounds_toArray, List.set_cons_zero, List.set_cons_succ]
        clear r0 r1 rf0 rf1 R0 T0 BB
        generalize ((v15.setCell ⟨g4, 0, none⟩ (.int .i64 (px + Cl.rround ⟨hn, hd⟩ (qx - px)))).setCell ⟨g4, 1, none⟩ (.int .i64 (py + Cl.rround ⟨hn, hd⟩ (qy - py)))) = v16 at *
        have T0 := R1; have R0 := T1; have BB := BB1; clear R1 T1 BB1
        refine wpAnyH_ready (rs := [17]) (by kernel_rfl) (by simp) ?_
        refine AllReadyH.cons (o := _) rfl (fun K hK => ?_) AllReadyH.nil
        go_simp
        refine hK.out _ _ (hHeld) (fun hHeld2 => ?_)
        clear hK K hHeld
        have hHeld := hHeld2; clear hHeld2
        try simp only [Act.put, List.setIfInBounds_toArray, List.set_cons_zero, List.set_cons_succ]
        refine wpAnyH_done (by kernel_rfl) ?_ _
        refine NoPanic.normal ?_
        go_wp2
        obtain ⟨r0, r1⟩ := cell_two R0.out; obtain ⟨t0, t1⟩ := cell_two T0.out
        refine bodyPost_ret (v := .tuple #[.agg #[.int .i64 (px + Cl.rround ⟨ln, ld⟩ (qx - px)), .int .i64 (py + Cl.rround ⟨ln, ld⟩ (qy - py))], .agg #[.int .i64 (px + Cl.rround ⟨hn, hd⟩ (qx - px)), .int .i64 (py + Cl.rround ⟨hn, hd⟩ (qy - py))], .bool false]) (by simp [results, Try.results29, go_sem, r0, r1, t0, t1]) rfl ⟨?_, ?_⟩
        · rw [HPA.out, HPB.out, HOK.out]; rfl
        · have := hw0.out; subst this; exact BB.out
    · go_wp2_with fail
      refine wp_region_noPanic ?_
      refine wp_region_held_drew (S := fun w' => w'.cell? ⟨g0, 0, none⟩ = some (.int .i64 px) ∧ w'.cell? ⟨g0, 1, none⟩ = some (.int .i64 py) ∧ w'.cell? ⟨gx, 0, none⟩ = some (.int .i64 (qx - px)) ∧ w'.cell? ⟨gy, 0, none⟩ = some (.int .i64 (qy - py)) ∧ w'.cell? ⟨g5, 0, none⟩ = some (.int .i64 ln) ∧ w'.cell? ⟨g5, 1, none⟩ = some (.int .i64 ld) ∧ w'.cell? ⟨g6, 0, none⟩ = some (.int .i64 hn) ∧ w'.cell? ⟨g6, 1, none⟩ = some (.int .i64 hd) ∧ w'.cell? ⟨g7, 0, none⟩ = some (.bool true)) (by kernel_rfl) ?_ (fun hHeld => ?_)
      · exact ⟨c0, c1, cx, cy, l0, l1, h0, h1, o0⟩
      have BB : Hid (Below g0 w V2.drew) := Lib.hid BV2.out.drew
      have z0 : g0 ≤ V2.drew.heap.size := z0
      have R0 : Hid (V2.drew.heap[g3]? = _) := Lib.hid WV2.out.r; have T0 : Hid (V2.drew.heap[g4]? = _) := Lib.hid WV2.out.t
      clear r0 r1 t0 t1 rf0 rf1 tf0 tf1 z3 z4 c0 c1 cx cy l0 l1 h0 h1 o0
      generalize V2.drew = u at *
      refine wpAnyH_take (i := 0) (oi := _) (v := ?_) rfl (by kernel_rfl) (by kernel_rfl) (by kernel_rfl) (fun _ _ _ h => h) (Or.inl ⟨by rfl, ?_⟩) (by assumption) ?_
      rotate_left
      · intro w hSw; (try dsimp only at hSw); go_simp; all_goals (with_reducible rfl)
      try simp only [Act.put, List.setIfInBounds_toArray, List.set_cons_zero, List.set_cons_succ]
      refine wpAnyH_take (i := 1) (oi := _) (v := ?_) rfl (by kernel_rfl) (by kernel_rfl) (by kernel_rfl) (fun _ _ _ h => h) (Or.inl ⟨by rfl, ?_⟩) (by assumption) ?_
      rotate_left
      · intro w hSw; (try dsimp only at hSw); go_simp; all_goals (with_reducible rfl)
      try simp only [Act.put, List.setIfInBounds_toArray, List.set_cons_zero, List.set_cons_succ]
      refine wpAnyH_take (i := 4) (oi := _) (v := ?_) rfl (by kernel_rfl) (by kernel_rfl) (by kernel_rfl) (fun _ _ _ h => h) (Or.inl ⟨by rfl, ?_⟩) (by assumption) ?_
      rotate_left
      · intro w hSw; (try dsimp only at hSw); go_simp; all_goals (with_reducible rfl)
      try simp only [Act.put, List.setIfInBounds_toArray, List.set_cons_zero, List.set_cons_succ]
      refine wpAnyH_take (i := 5) (oi := _) (v := ?_) rfl (by kernel_rfl) (by kernel_rfl) (by kernel_rfl) (fun _ _ _ h => h) (Or.inl ⟨by rfl, ?_⟩) (by assumption) ?_
      rotate_left
      · intro w hSw; (try dsimp only at hSw); go_simp; all_goals (with_reducible rfl)
      try simp only [Act.put, List.setIfInBounds_toArray, List.set_cons_zero, List.set_cons_succ]
      refine wpAnyH_take (i := 8) (oi := _) (v := ?_) rfl (by kernel_rfl) (by kernel_rfl) (by kernel_rfl) (fun _ _ _ h => h) (Or.inl ⟨by rfl, ?_⟩) (by assumption) ?_
      rotate_left
      · intro w hSw; (try dsimp only at hSw); go_simp; all_goals (with_reducible rfl)
      try simp only [Act.put, List.setIfInBounds_toArray, List.set_cons_zero, List.set_cons_succ]
      refine wpAnyH_ready (rs := [2, 6]) (by kernel_rfl) (by simp) ?_
      refine AllReadyH.cons (o := _) rfl (fun K hK => ?_) (AllReadyH.cons (o := _) rfl (fun K hK => ?_) AllReadyH.nil)
      · skip
        go_simp
        refine hK.out _ _ (hHeld) (fun hHeld2 => ?_)
        clear hK K hHeld
        have hHeld := hHeld2; clear hHeld2
        try simp only [Act.put, List.setIfInBounds_toArray, List.set_cons_zero, List.set_cons_succ]
        refine wpAnyH_ready (rs := [3, 6]) (by kernel_rfl) (by simp) ?_
        refine AllReadyH.cons (o := _) rfl (fun K hK => ?_) (AllReadyH.cons (o := _) rfl (fun K hK => ?_) AllReadyH.nil)
        · skip
          go_simp
          have hz := lt_of_block R0.out; have hz2 := lt_of_block T0.out
          refine (AR.out _ _ SL.out _ hHeld.1 hHeld.2.1 hHeld.2.2.1 hHeld.2.2.2.1).mono ?_
          rintro e u3 ⟨rfl, hb⟩
          have hN : u3.cell? ⟨g0, 0, none⟩ = some (.int .i64 px) ∧ u3.cell? ⟨g0, 1, none⟩ = some (.int .i64 py) ∧ u3.cell? ⟨gx, 0, none⟩ = some (.int .i64 (qx - px)) ∧ u3.cell? ⟨gy, 0, none⟩ = some (.int .i64 (qy - py)) ∧ u3.cell? ⟨g5, 0, none⟩ = some (.int .i64 ln) ∧ u3.cell? ⟨g5, 1, none⟩ = some (.int .i64 ld) ∧ u3.cell? ⟨g6, 0, none⟩ = some (.int .i64 hn) ∧ u3.cell? ⟨g6, 1, none⟩ = some (.int .i64 hd) ∧ u3.cell? ⟨g7, 0, none⟩ = some (.bool true) := by
            obtain ⟨c0, c1, cx, cy, l0, l1, h0, h1, o0⟩ := hHeld
            exact ⟨(hb.cell (World.block_lt_of_cell? _ _ c0)).trans c0, (hb.cell (World.block_lt_of_cell? _ _ c1)).trans c1, (hb.cell (World.block_lt_of_cell? _ _ cx)).trans cx, (hb.cell (World.block_lt_of_cell? _ _ cy)).trans cy, (hb.cell (World.block_lt_of_cell? _ _ l0)).trans l0, (hb.cell (World.block_lt_of_cell? _ _ l1)).trans l1, (hb.cell (World.block_lt_of_cell? _ _ h0)).trans h0, (hb.cell (World.block_lt_of_cell? _ _ h1)).trans h1, (hb.cell (World.block_lt_of_cell? _ _ o0)).trans o0⟩
          have BB := Lib.hid (BB.out.trans (hb.mono z0)); have z0 := Nat.le_trans z0 hb.size; have R0 := Lib.hid ((hb.block _ hz).trans R0.out); have T0 := Lib.hid ((hb.block _ hz2).trans T0.out); clear hb hz hz2
          refine hK.out _ _ (hN) (fun hHeld2 => ?_)
          clear hK K hHeld
          have hHeld := hHeld2; clear hHeld2
          try simp only [Act.put, List.setIfInBounds_toArray, List.set_cons_zero, List.set_cons_succ]
          refine wpAnyH_ready (rs := [6]) (by kernel_rfl) (by simp) ?_
          refine AllReadyH.cons (o := _) rfl (fun K hK => ?_) AllReadyH.nil
          go_simp
          refine hK.out _ _ (hHeld) (fun hHeld2 => ?_)
          clear hK K hHeld
          have hHeld := hHeld2; clear hHeld2
          try simp only [Act.put, List.setIfInBounds_toArray, List.set_cons_zero, List.set_cons_succ]
          refine wpAnyH_ready (rs := [7]) (by kernel_rfl) (by simp) ?_
          refine AllReadyH.cons (o := _) rfl (fun K hK => ?_) AllReadyH.nil
          go_simp
          have hz := lt_of_block R0.out; have hz2 := lt_of_block T0.out
          refine (AR.out _ _ SH.out _ hHeld.1 hHeld.2.1 hHeld.2.2.1 hHeld.2.2.2.1).mono ?_
          rintro e u7 ⟨rfl, hb⟩
          have hN : u7.cell? ⟨g0, 0, none⟩ = some (.int .i64 px) ∧ u7.cell? ⟨g0, 1, none⟩ = some (.int .i64 py) ∧ u7.cell? ⟨gx, 0, none⟩ = some (.int .i64 (qx - px)) ∧ u7.cell? ⟨gy, 0, none⟩ = some (.int .i64 (qy - py)) ∧ u7.cell? ⟨g5, 0, none⟩ = some (.int .i64 ln) ∧ u7.cell? ⟨g5, 1, none⟩ = some (.int .i64 ld) ∧ u7.cell? ⟨g6, 0, none⟩ = some (.int .i64 hn) ∧ u7.cell? ⟨g6, 1, none⟩ = some (.int .i64 hd) ∧ u7.cell? ⟨g7, 0, none⟩ = some (.bool true) := by
            obtain ⟨c0, c1, cx, cy, l0, l1, h0, h1, o0⟩ := hHeld
            exact ⟨(hb.cell (World.block_lt_of_cell? _ _ c0)).trans c0, (hb.cell (World.block_lt_of_cell? _ _ c1)).trans c1, (hb.cell (World.block_lt_of_cell? _ _ cx)).trans cx, (hb.cell (World.block_lt_of_cell? _ _ cy)).trans cy, (hb.cell (World.block_lt_of_cell? _ _ l0)).trans l0, (hb.cell (World.block_lt_of_cell? _ _ l1)).trans l1, (hb.cell (World.block_lt_of_cell? _ _ h0)).trans h0, (hb.cell (World.block_lt_of_cell? _ _ h1)).trans h1, (hb.cell (World.block_lt_of_cell? _ _ o0)).trans o0⟩
          have BB := Lib.hid (BB.out.trans (hb.mono z0)); have z0 := Nat.le_trans z0 hb.size; have R0 := Lib.hid ((hb.block _ hz).trans R0.out); have T0 := Lib.hid ((hb.block _ hz2).trans T0.out); clear hb hz hz2
          refine hK.out _ _ (hN) (fun hHeld2 => ?_)
          clear hK K hHeld
          have hHeld := hHeld2; clear hHeld2
          try simp only [Act.put, List.setIfInBounds_toArray, List.set_cons_zero, List.set_cons_succ]
          refine wpAnyH_take (i := 9) (oi := _) (v := ?_) rfl (by kernel_rfl) (by kernel_rfl) (by kernel_rfl) (fun _ _ _ h => h) (Or.inl ⟨by rfl, ?_⟩) (by assumption) ?_
          rotate_left
          · intro w hSw; (try dsimp only at hSw); go_simp; all_goals (with_reducible rfl)
          try simp only [Act.put, List.setIfInBounds_toArray, List.set_cons_zero, List.set_cons_succ]
          refine wpAnyH_take (i := 10) (oi := _) (v := ?_) rfl (by kernel_rfl) (by kernel_rfl) (by kernel_rfl) (fun _ _ _ h => h) (Or.inl ⟨by rfl, ?_⟩) (by assumption) ?_
          rotate_left
          · intro w hSw; (try dsimp only at hSw); go_simp; all_goals (with_reducible rfl)
          try simp only [Act.put, List.setIfInBounds_toArray, List.set_cons_zero, List.set_cons_succ]
          refine wpAnyH_take (i := 11) (oi := _) (v := ?_) rfl (by kernel_rfl) (by kernel_rfl) (by kernel_rfl) (fun _ _ _ h => h) (Or.inl ⟨by rfl, ?_⟩) (by assumption) ?_
          rotate_left
          · intro w hSw; (try dsimp only at hSw); go_simp; all_goals (with_reducible rfl)
          try simp only [Act.put, List.setIfInBounds_toArray, List.set_cons_zero, List.set_cons_succ]
          refine wpAnyH_ready (rs := [12]) (by kernel_rfl) (by simp) ?_
          refine AllReadyH.cons (o := _) rfl (fun K hK => ?_) AllReadyH.nil
          go_simp
          have hz := lt_of_block R0.out; have hz2 := lt_of_block T0.out
          refine (less_b ⟨hn, hd⟩ ⟨ln, ld⟩ _ _ SH.out SL.out rfl).mono ?_
          rintro e u12 ⟨rfl, hb⟩
          have hN : u12.cell? ⟨g0, 0, none⟩ = some (.int .i64 px) ∧ u12.cell? ⟨g0, 1, none⟩ = some (.int .i64 py) ∧ u12.cell? ⟨gx, 0, none⟩ = some (.int .i64 (qx - px)) ∧ u12.cell? ⟨gy, 0, none⟩ = some (.int .i64 (qy - py)) ∧ u12.cell? ⟨g5, 0, none⟩ = some (.int .i64 ln) ∧ u12.cell? ⟨g5, 1, none⟩ = some (.int .i64 ld) ∧ u12.cell? ⟨g6, 0, none⟩ = some (.int .i64 hn) ∧ u12.cell? ⟨g6, 1, none⟩ = some (.int .i64 hd) ∧ u12.cell? ⟨g7, 0, none⟩ = some (.bool true) := by
            obtain ⟨c0, c1, cx, cy, l0, l1, h0, h1, o0⟩ := hHeld
            exact ⟨(hb.cell (World.block_lt_of_cell? _ _ c0)).trans c0, (hb.cell (World.block_lt_of_cell? _ _ c1)).trans c1, (hb.cell (World.block_lt_of_cell? _ _ cx)).trans cx, (hb.cell (World.block_lt_of_cell? _ _ cy)).trans cy, (hb.cell (World.block_lt_of_cell? _ _ l0)).trans l0, (hb.cell (World.block_lt_of_cell? _ _ l1)).trans l1, (hb.cell (World.block_lt_of_cell? _ _ h0)).trans h0, (hb.cell (World.block_lt_of_cell? _ _ h1)).trans h1, (hb.cell (World.block_lt_of_cell? _ _ o0)).trans o0⟩
          have BB := Lib.hid (BB.out.trans (hb.mono z0)); have z0 := Nat.le_trans z0 hb.size; have R0 := Lib.hid ((hb.block _ hz).trans R0.out); have T0 := Lib.hid ((hb.block _ hz2).trans T0.out); clear hb hz hz2
          refine hK.out _ _ (hN) (fun hHeld2 => ?_)
          clear hK K hHeld
          have hHeld := hHeld2; clear hHeld2
          try simp only [Act.put, List.setIfInBounds_toArray, List.set_cons_zero, List.set_cons_succ]
          refine wpAnyH_take (i := 13) (oi := _) (v := ?_) rfl (by kernel_rfl) (by kernel_rfl) (by kernel_rfl) (fun _ _ _ h => h) (Or.inl ⟨by rfl, ?_⟩) (by assumption) ?_
          rotate_left
          · intro w hSw; (try dsimp only at hSw); go_simp; all_goals (with_reducible rfl)
          try simp only [Act.put, List.setIfInBounds_toArray, List.set_cons_zero, List.set_cons_succ]
          refine wpAnyH_take (i := 14) (oi := _) (v := ?_) rfl (by kernel_rfl) (by kernel_rfl) (by kernel_rfl) (fun _ _ _ h => h) (Or.inl ⟨by rfl, ?_⟩) (by assumption) ?_
          rotate_left
          · intro w hSw; (try dsimp only at hSw); go_simp; all_goals (with_reducible rfl)
          try simp only [Act.put, List.setIfInBounds_toArray, List.set_cons_zero, List.set_cons_succ]
          obtain ⟨r0, r1⟩ := cell_two R0.out; have rf0 := free_blk R0.out 0; have rf1 := free_blk R0.out 1
          refine wpAnyH_ready (rs := [15]) (by kernel_rfl) (by simp) ?_
          refine AllReadyH.cons (o := _) rfl (fun K hK => ?_) AllReadyH.nil
          go_simp
          have R1 : Hid (((u12.setCell ⟨g3, 0, none⟩ (.int .i64 (px + Cl.rround ⟨ln, ld⟩ (qx - px)))).setCell ⟨g3, 1, none⟩ (.int .i64 (py + Cl.rround ⟨ln, ld⟩ (qy - py)))).heap[g3]? = _) := Lib.hid (set_two R0.out (.int .i64 (px + Cl.rround ⟨ln, ld⟩ (qx - px))) (.int .i64 (py + Cl.rround ⟨ln, ld⟩ (qy - py)))); have T1 : Hid (((u12.setCell ⟨g3, 0, none⟩ (.int .i64 (px + Cl.rround ⟨ln, ld⟩ (qx - px)))).setCell ⟨g3, 1, none⟩ (.int .i64 (py + Cl.rround ⟨ln, ld⟩ (qy - py)))).heap[g4]? = _) := Lib.hid ((blk_two u12 g3 g4 (.int .i64 (px + Cl.rround ⟨ln, ld⟩ (qx - px))) (.int .i64 (py + Cl.rround ⟨ln, ld⟩ (qy - py))) (Ne.symm neg3g4)).trans T0.out)
          have BB1 : Hid (Below g0 w ((u12.setCell ⟨g3, 0, none⟩ (.int .i64 (px + Cl.rround ⟨ln, ld⟩ (qx - px)))).setCell ⟨g3, 1, none⟩ (.int .i64 (py + Cl.rround ⟨ln, ld⟩ (qy - py))))) := Lib.hid ((BB.out.setCell (by simp; omega) _).setCell (by simp; omega) _)
          refine hK.out _ _ (by obtain ⟨c0, c1, cx, cy, l0, l1, h0, h1, o0⟩ := hHeld; exact ⟨((cell_far _ _ _ _ neg0g3).trans (cell_far _ _ _ _ neg0g3)).trans c0, ((cell_far _ _ _ _ neg0g3).trans (cell_far _ _ _ _ neg0g3)).trans c1, ((cell_far _ _ _ _ negxg3).trans (cell_far _ _ _ _ negxg3)).trans cx, ((cell_far _ _ _ _ negyg3).trans (cell_far _ _ _ _ negyg3)).trans cy, ((cell_far _ _ _ _ neg5g3).trans (cell_far _ _ _ _ neg5g3)).trans l0, ((cell_far _ _ _ _ neg5g3).trans (cell_far _ _ _ _ neg5g3)).trans l1, ((cell_far _ _ _ _ neg6g3).trans (cell_far _ _ _ _ neg6g3)).trans h0, ((cell_far _ _ _ _ neg6g3).trans (cell_far _ _ _ _ neg6g3)).trans h1, ((cell_far _ _ _ _ neg7g3).trans (cell_far _ _ _ _ neg7g3)).trans o0⟩) (fun hHeld2 => ?_)
          clear hK K hHeld
          have hHeld := hHeld2; clear hHeld2
          try simp only [Act.put, List.setIfInBounds_toArray, List.set_cons_zero, List.set_cons_succ]
          clear r0 r1 rf0 rf1 R0 T0 BB
          generalize ((u12.setCell ⟨g3, 0, none⟩ (.int .i64 (px + Cl.rround ⟨ln, ld⟩ (qx - px)))).setCell ⟨g3, 1, none⟩ (.int .i64 (py + Cl.rround ⟨ln, ld⟩ (qy - py)))) = v15 at *
          have R0 := R1; have T0 := T1; have BB := BB1; clear R1 T1 BB1
          obtain ⟨r0, r1⟩ := cell_two T0.out; have rf0 := free_blk T0.out 0; have rf1 := free_blk T0.out 1
          refine wpAnyH_ready (rs := [16]) (by kernel_rfl) (by simp) ?_
          refine AllReadyH.cons (o := _) rfl (fun K hK => ?_) AllReadyH.nil
          go_simp
          have R1 : Hid (((v15.setCell ⟨g4, 0, none⟩ (.int .i64 (px + Cl.rround ⟨hn, hd⟩ (qx - px)))).setCell ⟨g4, 1, none⟩ (.int .i64 (py + Cl.rround ⟨hn, hd⟩ (qy - py)))).heap[g4]? = _) := Lib.hid (set_two T0.out (.int .i64 (px + Cl.rround ⟨hn, hd⟩ (qx - px))) (.int .i64 (py + Cl.rround ⟨hn, hd⟩ (qy - py)))); have T1 : Hid (((v15.setCell ⟨g4, 0, none⟩ (.int .i64 (px + Cl.rround ⟨hn, hd⟩ (qx - px)))).setCell ⟨g4, 1, none⟩ (.int .i64 (py + Cl.rround ⟨hn, hd⟩ (qy - py)))).heap[g3]? = _) := Lib.hid ((blk_two v15 g4 g3 (.int .i64 (px + Cl.rround ⟨hn, hd⟩ (qx - px))) (.int .i64 (py + Cl.rround ⟨hn, hd⟩ (qy - py))) neg3g4).trans R0.out)
          have BB1 : Hid (Below g0 w ((v15.setCell ⟨g4, 0, none⟩ (.int .i64 (px + Cl.rround ⟨hn, hd⟩ (qx - px)))).setCell ⟨g4, 1, none⟩ (.int .i64 (py + Cl.rround ⟨hn, hd⟩ (qy - py))))) := Lib.hid ((BB.out.setCell (by simp; omega) _).setCell (by simp; omega) _)
          refine hK.out _ _ (by obtain ⟨c0, c1, cx, cy, l0, l1, h0, h1, o0⟩ := hHeld; exact ⟨((cell_far _ _ _ _ neg0g4).trans (cell_far _ _ _ _ neg0g4)).trans c0, ((cell_far _ _ _ _ neg0g4).trans (cell_far _ _ _ _ neg0g4)).trans c1, ((cell_far _ _ _ _ negxg4).trans (cell_far _ _ _ _ negxg4)).trans cx, ((cell_far _ _ _ _ negyg4).trans (cell_far _ _ _ _ negyg4)).trans cy, ((cell_far _ _ _ _ neg5g4).trans (cell_far _ _ _ _ neg5g4)).trans l0, ((cell_far _ _ _ _ neg5g4).trans (cell_far _ _ _ _ neg5g4)).trans l1, ((cell_far _ _ _ _ neg6g4).trans (cell_far _ _ _ _ neg6g4)).trans h0, ((cell_far _ _ _ _ neg6g4).trans (cell_far _ _ _ _ neg6g4)).trans h1, ((cell_far _ _ _ _ neg7g4).trans (cell_far _ _ _ _ neg7g4)).trans o0⟩) (fun hHeld2 => ?_)
          clear hK K hHeld
          have hHeld := hHeld2; clear hHeld2
          try simp only [Act.put, List.setIfInBounds_toArray, List.set_cons_zero, List.set_cons_succ]
          clear r0 r1 rf0 rf1 R0 T0 BB
          generalize ((v15.setCell ⟨g4, 0, none⟩ (.int .i64 (px + Cl.rround ⟨hn, hd⟩ (qx - px)))).setCell ⟨g4, 1, none⟩ (.int .i64 (py + Cl.rround ⟨hn, hd⟩ (qy - py)))) = v16 at *
          have T0 := R1; have R0 := T1; have BB := BB1; clear R1 T1 BB1
          refine wpAnyH_ready (rs := [17]) (by kernel_rfl) (by simp) ?_
          refine AllReadyH.cons (o := _) rfl (fun K hK => ?_) AllReadyH.nil
          go_simp
          refine hK.out _ _ (hHeld) (fun hHeld2 => ?_)
          clear hK K hHeld
          have hHeld := hHeld2; clear hHeld2
          try simp only [Act.put, List.setIfInBounds_toArray, List.set_cons_zero, List.set_cons_succ]
          refine wpAnyH_done (by kernel_rfl) ?_ _
          refine NoPanic.normal ?_
          go_wp2
          obtain ⟨r0, r1⟩ := cell_two R0.out; obtain ⟨t0, t1⟩ := cell_two T0.out
          refine bodyPost_ret (v := .tuple #[.agg #[.int .i64 (px + Cl.rround ⟨ln, ld⟩ (qx - px)), .int .i64 (py + Cl.rround ⟨ln, ld⟩ (qy - py))], .agg #[.int .i64 (px + Cl.rround ⟨hn, hd⟩ (qx - px)), .int .i64 (py + Cl.rround ⟨hn, hd⟩ (qy - py))], .bool (!Cl.rless ⟨hn, hd⟩ ⟨ln, ld⟩)]) (by simp [results, Try.results29, go_sem, r0, r1, t0, t1]) rfl ⟨?_, ?_⟩
          · rw [HPA.out, HPB.out, HOK.out]; rfl
          · have := hw0.out; subst this; exact BB.out
        · skip
          go_simp
          refine hK.out _ _ (hHeld) (fun hHeld2 => ?_)
          clear hK K hHeld
          have hHeld := hHeld2; clear hHeld2
          try simp only [Act.put, List.setIfInBounds_toArray, List.set_cons_zero, List.set_cons_succ]
          refine wpAnyH_ready (rs := [3]) (by kernel_rfl) (by simp) ?_
          refine AllReadyH.cons (o := _) rfl (fun K hK => ?_) AllReadyH.nil
          go_simp
          have hz := lt_of_block R0.out; have hz2 := lt_of_block T0.out
          refine (AR.out _ _ SL.out _ hHeld.1 hHeld.2.1 hHeld.2.2.1 hHeld.2.2.2.1).mono ?_
          rintro e u3 ⟨rfl, hb⟩
          have hN : u3.cell? ⟨g0, 0, none⟩ = some (.int .i64 px) ∧ u3.cell? ⟨g0, 1, none⟩ = some (.int .i64 py) ∧ u3.cell? ⟨gx, 0, none⟩ = some (.int .i64 (qx - px)) ∧ u3.cell? ⟨gy, 0, none⟩ = some (.int .i64 (qy - py)) ∧ u3.cell? ⟨g5, 0, none⟩ = some (.int .i64 ln) ∧ u3.cell? ⟨g5, 1, none⟩ = some (.int .i64 ld) ∧ u3.cell? ⟨g6, 0, none⟩ = some (.int .i64 hn) ∧ u3.cell? ⟨g6, 1, none⟩ = some (.int .i64 hd) ∧ u3.cell? ⟨g7, 0, none⟩ = some (.bool true) := by
            obtain ⟨c0, c1, cx, cy, l0, l1, h0, h1, o0⟩ := hHeld
            exact ⟨(hb.cell (World.block_lt_of_cell? _ _ c0)).trans c0, (hb.cell (World.block_lt_of_cell? _ _ c1)).trans c1, (hb.cell (World.block_lt_of_cell? _ _ cx)).trans cx, (hb.cell (World.block_lt_of_cell? _ _ cy)).trans cy, (hb.cell (World.block_lt_of_cell? _ _ l0)).trans l0, (hb.cell (World.block_lt_of_cell? _ _ l1)).trans l1, (hb.cell (World.block_lt_of_cell? _ _ h0)).trans h0, (hb.cell (World.block_lt_of_cell? _ _ h1)).trans h1, (hb.cell (World.block_lt_of_cell? _ _ o0)).trans o0⟩
          have BB := Lib.hid (BB.out.trans (hb.mono z0)); have z0 := Nat.le_trans z0 hb.size; have R0 := Lib.hid ((hb.block _ hz).trans R0.out); have T0 := Lib.hid ((hb.block _ hz2).trans T0.out); clear hb hz hz2
          refine hK.out _ _ (hN) (fun hHeld2 => ?_)
          clear hK K hHeld
          have hHeld := hHeld2; clear hHeld2
          try simp only [Act.put, List.setIfInBounds_toArray, List.set_cons_zero, List.set_cons_succ]
          refine wpAnyH_ready (rs := [7]) (by kernel_rfl) (by simp) ?_
          refine AllReadyH.cons (o := _) rfl (fun K hK => ?_) AllReadyH.nil
          go_simp
          have hz := lt_of_block R0.out; have hz2 := lt_of_block T0.out
          refine (AR.out _ _ SH.out _ hHeld.1 hHeld.2.1 hHeld.2.2.1 hHeld.2.2.2.1).mono ?_
          rintro e u7 ⟨rfl, hb⟩
          have hN : u7.cell? ⟨g0, 0, none⟩ = some (.int .i64 px) ∧ u7.cell? ⟨g0, 1, none⟩ = some (.int .i64 py) ∧ u7.cell? ⟨gx, 0, none⟩ = some (.int .i64 (qx - px)) ∧ u7.cell? ⟨gy, 0, none⟩ = some (.int .i64 (qy - py)) ∧ u7.cell? ⟨g5, 0, none⟩ = some (.int .i64 ln) ∧ u7.cell? ⟨g5, 1, none⟩ = some (.int .i64 ld) ∧ u7.cell? ⟨g6, 0, none⟩ = some (.int .i64 hn) ∧ u7.cell? ⟨g6, 1, none⟩ = some (.int .i64 hd) ∧ u7.cell? ⟨g7, 0, none⟩ = some (.bool true) := by
            obtain ⟨c0, c1, cx, cy, l0, l1, h0, h1, o0⟩ := hHeld
            exact ⟨(hb.cell (World.block_lt_of_cell? _ _ c0)).trans c0, (hb.cell (World.block_lt_of_cell? _ _ c1)).trans c1, (hb.cell (World.block_lt_of_cell? _ _ cx)).trans cx, (hb.cell (World.block_lt_of_cell? _ _ cy)).trans cy, (hb.cell (World.block_lt_of_cell? _ _ l0)).trans l0, (hb.cell (World.block_lt_of_cell? _ _ l1)).trans l1, (hb.cell (World.block_lt_of_cell? _ _ h0)).trans h0, (hb.cell (World.block_lt_of_cell? _ _ h1)).trans h1, (hb.cell (World.block_lt_of_cell? _ _ o0)).trans o0⟩
          have BB := Lib.hid (BB.out.trans (hb.mono z0)); have z0 := Nat.le_trans z0 hb.size; have R0 := Lib.hid ((hb.block _ hz).trans R0.out); have T0 := Lib.hid ((hb.block _ hz2).trans T0.out); clear hb hz hz2
          refine hK.out _ _ (hN) (fun hHeld2 => ?_)
          clear hK K hHeld
          have hHeld := hHeld2; clear hHeld2
          try simp only [Act.put, List.setIfInBounds_toArray, List.set_cons_zero, List.set_cons_succ]
          refine wpAnyH_take (i := 9) (oi := _) (v := ?_) rfl (by kernel_rfl) (by kernel_rfl) (by kernel_rfl) (fun _ _ _ h => h) (Or.inl ⟨by rfl, ?_⟩) (by assumption) ?_
          rotate_left
          · intro w hSw; (try dsimp only at hSw); go_simp; all_goals (with_reducible rfl)
          try simp only [Act.put, List.setIfInBounds_toArray, List.set_cons_zero, List.set_cons_succ]
          refine wpAnyH_take (i := 10) (oi := _) (v := ?_) rfl (by kernel_rfl) (by kernel_rfl) (by kernel_rfl) (fun _ _ _ h => h) (Or.inl ⟨by rfl, ?_⟩) (by assumption) ?_
          rotate_left
          · intro w hSw; (try dsimp only at hSw); go_simp; all_goals (with_reducible rfl)
          try simp only [Act.put, List.setIfInBounds_toArray, List.set_cons_zero, List.set_cons_succ]
          refine wpAnyH_take (i := 11) (oi := _) (v := ?_) rfl (by kernel_rfl) (by kernel_rfl) (by kernel_rfl) (fun _ _ _ h => h) (Or.inl ⟨by rfl, ?_⟩) (by assumption) ?_
          rotate_left
          · intro w hSw; (try dsimp only at hSw); go_simp; all_goals (with_reducible rfl)
          try simp only [Act.put, List.setIfInBounds_toArray, List.set_cons_zero, List.set_cons_succ]
          refine wpAnyH_ready (rs := [12]) (by kernel_rfl) (by simp) ?_
          refine AllReadyH.cons (o := _) rfl (fun K hK => ?_) AllReadyH.nil
          go_simp
          have hz := lt_of_block R0.out; have hz2 := lt_of_block T0.out
          refine (less_b ⟨hn, hd⟩ ⟨ln, ld⟩ _ _ SH.out SL.out rfl).mono ?_
          rintro e u12 ⟨rfl, hb⟩
          have hN : u12.cell? ⟨g0, 0, none⟩ = some (.int .i64 px) ∧ u12.cell? ⟨g0, 1, none⟩ = some (.int .i64 py) ∧ u12.cell? ⟨gx, 0, none⟩ = some (.int .i64 (qx - px)) ∧ u12.cell? ⟨gy, 0, none⟩ = some (.int .i64 (qy - py)) ∧ u12.cell? ⟨g5, 0, none⟩ = some (.int .i64 ln) ∧ u12.cell? ⟨g5, 1, none⟩ = some (.int .i64 ld) ∧ u12.cell? ⟨g6, 0, none⟩ = some (.int .i64 hn) ∧ u12.cell? ⟨g6, 1, none⟩ = some (.int .i64 hd) ∧ u12.cell? ⟨g7, 0, none⟩ = some (.bool true) := by
            obtain ⟨c0, c1, cx, cy, l0, l1, h0, h1, o0⟩ := hHeld
            exact ⟨(hb.cell (World.block_lt_of_cell? _ _ c0)).trans c0, (hb.cell (World.block_lt_of_cell? _ _ c1)).trans c1, (hb.cell (World.block_lt_of_cell? _ _ cx)).trans cx, (hb.cell (World.block_lt_of_cell? _ _ cy)).trans cy, (hb.cell (World.block_lt_of_cell? _ _ l0)).trans l0, (hb.cell (World.block_lt_of_cell? _ _ l1)).trans l1, (hb.cell (World.block_lt_of_cell? _ _ h0)).trans h0, (hb.cell (World.block_lt_of_cell? _ _ h1)).trans h1, (hb.cell (World.block_lt_of_cell? _ _ o0)).trans o0⟩
          have BB := Lib.hid (BB.out.trans (hb.mono z0)); have z0 := Nat.le_trans z0 hb.size; have R0 := Lib.hid ((hb.block _ hz).trans R0.out); have T0 := Lib.hid ((hb.block _ hz2).trans T0.out); clear hb hz hz2
          refine hK.out _ _ (hN) (fun hHeld2 => ?_)
          clear hK K hHeld
          have hHeld := hHeld2; clear hHeld2
          try simp only [Act.put, List.setIfInBounds_toArray, List.set_cons_zero, List.set_cons_succ]
          refine wpAnyH_take (i := 13) (oi := _) (v := ?_) rfl (by kernel_rfl) (by kernel_rfl) (by kernel_rfl) (fun _ _ _ h => h) (Or.inl ⟨by rfl, ?_⟩) (by assumption) ?_
          rotate_left
          · intro w hSw; (try dsimp only at hSw); go_simp; all_goals (with_reducible rfl)
          try simp only [Act.put, List.setIfInBounds_toArray, List.set_cons_zero, List.set_cons_succ]
          refine wpAnyH_take (i := 14) (oi := _) (v := ?_) rfl (by kernel_rfl) (by kernel_rfl) (by kernel_rfl) (fun _ _ _ h => h) (Or.inl ⟨by rfl, ?_⟩) (by assumption) ?_
          rotate_left
          · intro w hSw; (try dsimp only at hSw); go_simp; all_goals (with_reducible rfl)
          try simp only [Act.put, List.setIfInBounds_toArray, List.set_cons_zero, List.set_cons_succ]
          obtain ⟨r0, r1⟩ := cell_two R0.out; have rf0 := free_blk R0.out 0; have rf1 := free_blk R0.out 1
          refine wpAnyH_ready (rs := [15]) (by kernel_rfl) (by simp) ?_
          refine AllReadyH.cons (o := _) rfl (fun K hK => ?_) AllReadyH.nil
          go_simp
          have R1 : Hid (((u12.setCell ⟨g3, 0, none⟩ (.int .i64 (px + Cl.rround ⟨ln, ld⟩ (qx - px)))).setCell ⟨g3, 1, none⟩ (.int .i64 (py + Cl.rround ⟨ln, ld⟩ (qy - py)))).heap[g3]? = _) := Lib.hid (set_two R0.out (.int .i64 (px + Cl.rround ⟨ln, ld⟩ (qx - px))) (.int .i64 (py + Cl.rround ⟨ln, ld⟩ (qy - py)))); have T1 : Hid (((u12.setCell ⟨g3, 0, none⟩ (.int .i64 (px + Cl.rround ⟨ln, ld⟩ (qx - px)))).setCell ⟨g3, 1, none⟩ (.int .i64 (py + Cl.rround ⟨ln, ld⟩ (qy - py)))).heap[g4]? = _) := Lib.hid ((blk_two u12 g3 g4 (.int .i64 (px + Cl.rround ⟨ln, ld⟩ (qx - px))) (.int .i64 (py + Cl.rround ⟨ln, ld⟩ (qy - py))) (Ne.symm neg3g4)).trans T0.out)
          have BB1 : Hid (Below g0 w ((u12.setCell ⟨g3, 0, none⟩ (.int .i64 (px + Cl.rround ⟨ln, ld⟩ (qx - px)))).setCell ⟨g3, 1, none⟩ (.int .i64 (py + Cl.rround ⟨ln, ld⟩ (qy - py))))) := Lib.hid ((BB.out.setCell (by simp; omega) _).setCell (by simp; omega) _)
          refine hK.out _ _ (by obtain ⟨c0, c1, cx, cy, l0, l1, h0, h1, o0⟩ := hHeld; exact ⟨((cell_far _ _ _ _ neg0g3).trans (cell_far _ _ _ _ neg0g3)).trans c0, ((cell_far _ _ _ _ neg0g3).trans (cell_far _ _ _ _ neg0g3)).trans c1, ((cell_far _ _ _ _ negxg3).trans (cell_far _ _ _ _ negxg3)).trans cx, ((cell_far _ _ _ _ negyg3).trans (cell_far _ _ _ _ negyg3)).trans cy, ((cell_far _ _ _ _ neg5g3).trans (cell_far _ _ _ _ neg5g3)).trans l0, ((cell_far _ _ _ _ neg5g3).trans (cell_far _ _ _ _ neg5g3)).trans l1, ((cell_far _ _ _ _ neg6g3).trans (cell_far _ _ _ _ neg6g3)).trans h0, ((cell_far _ _ _ _ neg6g3).trans (cell_far _ _ _ _ neg6g3)).trans h1, ((cell_far _ _ _ _ neg7g3).trans (cell_far _ _ _ _ neg7g3)).trans o0⟩) (fun hHeld2 => ?_)
          clear hK K hHeld
          have hHeld := hHeld2; clear hHeld2
          try simp only [Act.put, List.setIfInBounds_toArray, List.set_cons_zero, List.set_cons_succ]
          clear r0 r1 rf0 rf1 R0 T0 BB
          generalize ((u12.setCell ⟨g3, 0, none⟩ (.int .i64 (px + Cl.rround ⟨ln, ld⟩ (qx - px)))).setCell ⟨g3, 1, none⟩ (.int .i64 (py + Cl.rround ⟨ln, ld⟩ (qy - py)))) = v15 at *
          have R0 := R1; have T0 := T1; have BB := BB1; clear R1 T1 BB1
          obtain ⟨r0, r1⟩ := cell_two T0.out; have rf0 := free_blk T0.out 0; have rf1 := free_blk T0.out 1
          refine wpAnyH_ready (rs := [16]) (by kernel_rfl) (by simp) ?_
          refine AllReadyH.cons (o := _) rfl (fun K hK => ?_) AllReadyH.nil
          go_simp
          have R1 : Hid (((v15.setCell ⟨g4, 0, none⟩ (.int .i64 (px + Cl.rround ⟨hn, hd⟩ (qx - px)))).setCell ⟨g4, 1, none⟩ (.int .i64 (py + Cl.rround ⟨hn, hd⟩ (qy - py)))).heap[g4]? = _) := Lib.hid (set_two T0.out (.int .i64 (px + Cl.rround ⟨hn, hd⟩ (qx - px))) (.int .i64 (py + Cl.rround ⟨hn, hd⟩ (qy - py)))); have T1 : Hid (((v15.setCell ⟨g4, 0, none⟩ (.int .i64 (px + Cl.rround ⟨hn, hd⟩ (qx - px)))).setCell ⟨g4, 1, none⟩ (.int .i64 (py + Cl.rround ⟨hn, hd⟩ (qy - py)))).heap[g3]? = _) := Lib.hid ((blk_two v15 g4 g3 (.int .i64 (px + Cl.rround ⟨hn, hd⟩ (qx - px))) (.int .i64 (py + Cl.rround ⟨hn, hd⟩ (qy - py))) neg3g4).trans R0.out)
          have BB1 : Hid (Below g0 w ((v15.setCell ⟨g4, 0, none⟩ (.int .i64 (px + Cl.rround ⟨hn, hd⟩ (qx - px)))).setCell ⟨g4, 1, none⟩ (.int .i64 (py + Cl.rround ⟨hn, hd⟩ (qy - py))))) := Lib.hid ((BB.out.setCell (by simp; omega) _).setCell (by simp; omega) _)
          refine hK.out _ _ (by obtain ⟨c0, c1, cx, cy, l0, l1, h0, h1, o0⟩ := hHeld; exact ⟨((cell_far _ _ _ _ neg0g4).trans (cell_far _ _ _ _ neg0g4)).trans c0, ((cell_far _ _ _ _ neg0g4).trans (cell_far _ _ _ _ neg0g4)).trans c1, ((cell_far _ _ _ _ negxg4).trans (cell_far _ _ _ _ negxg4)).trans cx, ((cell_far _ _ _ _ negyg4).trans (cell_far _ _ _ _ negyg4)).trans cy, ((cell_far _ _ _ _ neg5g4).trans (cell_far _ _ _ _ neg5g4)).trans l0, ((cell_far _ _ _ _ neg5g4).trans (cell_far _ _ _ _ neg5g4)).trans l1, ((cell_far _ _ _ _ neg6g4).trans (cell_far _ _ _ _ neg6g4)).trans h0, ((cell_far _ _ _ _ neg6g4).trans (cell_far _ _ _ _ neg6g4)).trans h1, ((cell_far _ _ _ _ neg7g4).trans (cell_far _ _ _ _ neg7g4)).trans o0⟩) (fun hHeld2 => ?_)
          clear hK K hHeld
          have hHeld := hHeld2; clear hHeld2
          try simp only [Act.put, List.setIfInBounds_toArray, List.set_cons_zero, List.set_cons_succ]
          clear r0 r1 rf0 rf1 R0 T0 BB
          generalize ((v15.setCell ⟨g4, 0, none⟩ (.int .i64 (px + Cl.rround ⟨hn, hd⟩ (qx - px)))).setCell ⟨g4, 1, none⟩ (.int .i64 (py + Cl.rround ⟨hn, hd⟩ (qy - py)))) = v16 at *
          have T0 := R1; have R0 := T1; have BB := BB1; clear R1 T1 BB1
          refine wpAnyH_ready (rs := [17]) (by kernel_rfl) (by simp) ?_
          refine AllReadyH.cons (o := _) rfl (fun K hK => ?_) AllReadyH.nil
          go_simp
          refine hK.out _ _ (hHeld) (fun hHeld2 => ?_)
          clear hK K hHeld
          have hHeld := hHeld2; clear hHeld2
          try simp only [Act.put, List.setIfInBounds_toArray, List.set_cons_zero, List.set_cons_succ]
          refine wpAnyH_done (by kernel_rfl) ?_ _
          refine NoPanic.normal ?_
          go_wp2
          obtain ⟨r0, r1⟩ := cell_two R0.out; obtain ⟨t0, t1⟩ := cell_two T0.out
          refine bodyPost_ret (v := .tuple #[.agg #[.int .i64 (px + Cl.rround ⟨ln, ld⟩ (qx - px)), .int .i64 (py + Cl.rround ⟨ln, ld⟩ (qy - py))], .agg #[.int .i64 (px + Cl.rround ⟨hn, hd⟩ (qx - px)), .int .i64 (py + Cl.rround ⟨hn, hd⟩ (qy - py))], .bool (!Cl.rless ⟨hn, hd⟩ ⟨ln, ld⟩)]) (by simp [results, Try.results29, go_sem, r0, r1, t0, t1]) rfl ⟨?_, ?_⟩
          · rw [HPA.out, HPB.out, HOK.out]; rfl
          · have := hw0.out; subst this; exact BB.out
      · skip
        go_simp
        refine hK.out _ _ (hHeld) (fun hHeld2 => ?_)
        clear hK K hHeld
        have hHeld := hHeld2; clear hHeld2
        try simp only [Act.put, List.setIfInBounds_toArray, List.set_cons_zero, List.set_cons_succ]
        refine wpAnyH_ready (rs := [2]) (by kernel_rfl) (by simp) ?_
        refine AllReadyH.cons (o := _) rfl (fun K hK => ?_) AllReadyH.nil
        go_simp
        refine hK.out _ _ (hHeld) (fun hHeld2 => ?_)
        clear hK K hHeld
        have hHeld := hHeld2; clear hHeld2
        try simp only [Act.put, List.setIfInBounds_toArray, List.set_cons_zero, List.set_cons_succ]
        refine wpAnyH_ready (rs := [3]) (by kernel_rfl) (by simp) ?_
        refine AllReadyH.cons (o := _) rfl (fun K hK => ?_) AllReadyH.nil
        go_simp
        have hz := lt_of_block R0.out; have hz2 := lt_of_block T0.out
        refine (AR.out _ _ SL.out _ hHeld.1 hHeld.2.1 hHeld.2.2.1 hHeld.2.2.2.1).mono ?_
        rintro e u3 ⟨rfl, hb⟩
        have hN : u3.cell? ⟨g0, 0, none⟩ = some (.int .i64 px) ∧ u3.cell? ⟨g0, 1, none⟩ = some (.int .i64 py) ∧ u3.cell? ⟨gx, 0, none⟩ = some (.int .i64 (qx - px)) ∧ u3.cell? ⟨gy, 0, none⟩ = some (.int .i64 (qy - py)) ∧ u3.cell? ⟨g5, 0, none⟩ = some (.int .i64 ln) ∧ u3.cell? ⟨g5, 1, none⟩ = some (.int .i64 ld) ∧ u3.cell? ⟨g6, 0, none⟩ = some (.int .i64 hn) ∧ u3.cell? ⟨g6, 1, none⟩ = some (.int .i64 hd) ∧ u3.cell? ⟨g7, 0, none⟩ = some (.bool true) := by
          obtain ⟨c0, c1, cx, cy, l0, l1, h0, h1, o0⟩ := hHeld
          exact ⟨(hb.cell (World.block_lt_of_cell? _ _ c0)).trans c0, (hb.cell (World.block_lt_of_cell? _ _ c1)).trans c1, (hb.cell (World.block_lt_of_cell? _ _ cx)).trans cx, (hb.cell (World.block_lt_of_cell? _ _ cy)).trans cy, (hb.cell (World.block_lt_of_cell? _ _ l0)).trans l0, (hb.cell (World.block_lt_of_cell? _ _ l1)).trans l1, (hb.cell (World.block_lt_of_cell? _ _ h0)).trans h0, (hb.cell (World.block_lt_of_cell? _ _ h1)).trans h1, (hb.cell (World.block_lt_of_cell? _ _ o0)).trans o0⟩
        have BB := Lib.hid (BB.out.trans (hb.mono z0)); have z0 := Nat.le_trans z0 hb.size; have R0 := Lib.hid ((hb.block _ hz).trans R0.out); have T0 := Lib.hid ((hb.block _ hz2).trans T0.out); clear hb hz hz2
        refine hK.out _ _ (hN) (fun hHeld2 => ?_)
        clear hK K hHeld
        have hHeld := hHeld2; clear hHeld2
        try simp only [Act.put, List.setIfInBounds_toArray, List.set_cons_zero, List.set_cons_succ]
        refine wpAnyH_ready (rs := [7]) (by kernel_rfl) (by simp) ?_
        refine AllReadyH.cons (o := _) rfl (fun K hK => ?_) AllReadyH.nil
        go_simp
        have hz := lt_of_block R0.out; have hz2 := lt_of_block T0.out
        refine (AR.out _ _ SH.out _ hHeld.1 hHeld.2.1 hHeld.2.2.1 hHeld.2.2.2.1).mono ?_
        rintro e u7 ⟨rfl, hb⟩
        have hN : u7.cell? ⟨g0, 0, none⟩ = some (.int .i64 px) ∧ u7.cell? ⟨g0, 1, none⟩ = some (.int .i64 py) ∧ u7.cell? ⟨gx, 0, none⟩ = some (.int .i64 (qx - px)) ∧ u7.cell? ⟨gy, 0, none⟩ = some (.int .i64 (qy - py)) ∧ u7.cell? ⟨g5, 0, none⟩ = some (.int .i64 ln) ∧ u7.cell? ⟨g5, 1, none⟩ = some (.int .i64 ld) ∧ u7.cell? ⟨g6, 0, none⟩ = some (.int .i64 hn) ∧ u7.cell? ⟨g6, 1, none⟩ = some (.int .i64 hd) ∧ u7.cell? ⟨g7, 0, none⟩ = some (.bool true) := by
          obtain ⟨c0, c1, cx, cy, l0, l1, h0, h1, o0⟩ := hHeld
          exact ⟨(hb.cell (World.block_lt_of_cell? _ _ c0)).trans c0, (hb.cell (World.block_lt_of_cell? _ _ c1)).trans c1, (hb.cell (World.block_lt_of_cell? _ _ cx)).trans cx, (hb.cell (World.block_lt_of_cell? _ _ cy)).trans cy, (hb.cell (World.block_lt_of_cell? _ _ l0)).trans l0, (hb.cell (World.block_lt_of_cell? _ _ l1)).trans l1, (hb.cell (World.block_lt_of_cell? _ _ h0)).trans h0, (hb.cell (World.block_lt_of_cell? _ _ h1)).trans h1, (hb.cell (World.block_lt_of_cell? _ _ o0)).trans o0⟩
        have BB := Lib.hid (BB.out.trans (hb.mono z0)); have z0 := Nat.le_trans z0 hb.size; have R0 := Lib.hid ((hb.block _ hz).trans R0.out); have T0 := Lib.hid ((hb.block _ hz2).trans T0.out); clear hb hz hz2
        refine hK.out _ _ (hN) (fun hHeld2 => ?_)
        clear hK K hHeld
        have hHeld := hHeld2; clear hHeld2
        try simp only [Act.put, List.setIfInBounds_toArray, List.set_cons_zero, List.set_cons_succ]
        refine wpAnyH_take (i := 9) (oi := _) (v := ?_) rfl (by kernel_rfl) (by kernel_rfl) (by kernel_rfl) (fun _ _ _ h => h) (Or.inl ⟨by rfl, ?_⟩) (by assumption) ?_
        rotate_left
        · intro w hSw; (try dsimp only at hSw); go_simp; all_goals (with_reducible rfl)
        try simp only [Act.put, List.setIfInBounds_toArray, List.set_cons_zero, List.set_cons_succ]
        refine wpAnyH_take (i := 10) (oi := _) (v := ?_) rfl (by kernel_rfl) (by kernel_rfl) (by kernel_rfl) (fun _ _ _ h => h) (Or.inl ⟨by rfl, ?_⟩) (by assumption) ?_
        rotate_left
        · intro w hSw; (try dsimp only at hSw); go_simp; all_goals (with_reducible rfl)
        try simp only [Act.put, List.setIfInBounds_toArray, List.set_cons_zero, List.set_cons_succ]
        refine wpAnyH_take (i := 11) (oi := _) (v := ?_) rfl (by kernel_rfl) (by kernel_rfl) (by kernel_rfl) (fun _ _ _ h => h) (Or.inl ⟨by rfl, ?_⟩) (by assumption) ?_
        rotate_left
        · intro w hSw; (try dsimp only at hSw); go_simp; all_goals (with_reducible rfl)
        try simp only [Act.put, List.setIfInBounds_toArray, List.set_cons_zero, List.set_cons_succ]
        refine wpAnyH_ready (rs := [12]) (by kernel_rfl) (by simp) ?_
        refine AllReadyH.cons (o := _) rfl (fun K hK => ?_) AllReadyH.nil
        go_simp
        have hz := lt_of_block R0.out; have hz2 := lt_of_block T0.out
        refine (less_b ⟨hn, hd⟩ ⟨ln, ld⟩ _ _ SH.out SL.out rfl).mono ?_
        rintro e u12 ⟨rfl, hb⟩
        have hN : u12.cell? ⟨g0, 0, none⟩ = some (.int .i64 px) ∧ u12.cell? ⟨g0, 1, none⟩ = some (.int .i64 py) ∧ u12.cell? ⟨gx, 0, none⟩ = some (.int .i64 (qx - px)) ∧ u12.cell? ⟨gy, 0, none⟩ = some (.int .i64 (qy - py)) ∧ u12.cell? ⟨g5, 0, none⟩ = some (.int .i64 ln) ∧ u12.cell? ⟨g5, 1, none⟩ = some (.int .i64 ld) ∧ u12.cell? ⟨g6, 0, none⟩ = some (.int .i64 hn) ∧ u12.cell? ⟨g6, 1, none⟩ = some (.int .i64 hd) ∧ u12.cell? ⟨g7, 0, none⟩ = some (.bool true) := by
          obtain ⟨c0, c1, cx, cy, l0, l1, h0, h1, o0⟩ := hHeld
          exact ⟨(hb.cell (World.block_lt_of_cell? _ _ c0)).trans c0, (hb.cell (World.block_lt_of_cell? _ _ c1)).trans c1, (hb.cell (World.block_lt_of_cell? _ _ cx)).trans cx, (hb.cell (World.block_lt_of_cell? _ _ cy)).trans cy, (hb.cell (World.block_lt_of_cell? _ _ l0)).trans l0, (hb.cell (World.block_lt_of_cell? _ _ l1)).trans l1, (hb.cell (World.block_lt_of_cell? _ _ h0)).trans h0, (hb.cell (World.block_lt_of_cell? _ _ h1)).trans h1, (hb.cell (World.block_lt_of_cell? _ _ o0)).trans o0⟩
        have BB := Lib.hid (BB.out.trans (hb.mono z0)); have z0 := Nat.le_trans z0 hb.size; have R0 := Lib.hid ((hb.block _ hz).trans R0.out); have T0 := Lib.hid ((hb.block _ hz2).trans T0.out); clear hb hz hz2
        refine hK.out _ _ (hN) (fun hHeld2 => ?_)
        clear hK K hHeld
        have hHeld := hHeld2; clear hHeld2
        try simp only [Act.put, List.setIfInBounds_toArray, List.set_cons_zero, List.set_cons_succ]
        refine wpAnyH_take (i := 13) (oi := _) (v := ?_) rfl (by kernel_rfl) (by kernel_rfl) (by kernel_rfl) (fun _ _ _ h => h) (Or.inl ⟨by rfl, ?_⟩) (by assumption) ?_
        rotate_left
        · intro w hSw; (try dsimp only at hSw); go_simp; all_goals (with_reducible rfl)
        try simp only [Act.put, List.setIfInBounds_toArray, List.set_cons_zero, List.set_cons_succ]
        refine wpAnyH_take (i := 14) (oi := _) (v := ?_) rfl (by kernel_rfl) (by kernel_rfl) (by kernel_rfl) (fun _ _ _ h => h) (Or.inl ⟨by rfl, ?_⟩) (by assumption) ?_
        rotate_left
        · intro w hSw; (try dsimp only at hSw); go_simp; all_goals (with_reducible rfl)
        try simp only [Act.put, List.setIfInBounds_toArray, List.set_cons_zero, List.set_cons_succ]
        obtain ⟨r0, r1⟩ := cell_two R0.out; have rf0 := free_blk R0.out 0; have rf1 := free_blk R0.out 1
        refine wpAnyH_ready (rs := [15]) (by kernel_rfl) (by simp) ?_
        refine AllReadyH.cons (o := _) rfl (fun K hK => ?_) AllReadyH.nil
        go_simp
        have R1 : Hid (((u12.setCell ⟨g3, 0, none⟩ (.int .i64 (px + Cl.rround ⟨ln, ld⟩ (qx - px)))).setCell ⟨g3, 1, none⟩ (.int .i64 (py + Cl.rround ⟨ln, ld⟩ (qy - py)))).heap[g3]? = _) := Lib.hid (set_two R0.out (.int .i64 (px + Cl.rround ⟨ln, ld⟩ (qx - px))) (.int .i64 (py + Cl.rround ⟨ln, ld⟩ (qy - py)))); have T1 : Hid (((u12.setCell ⟨g3, 0, none⟩ (.int .i64 (px + Cl.rround ⟨ln, ld⟩ (qx - px)))).setCell ⟨g3, 1, none⟩ (.int .i64 (py + Cl.rround ⟨ln, ld⟩ (qy - py)))).heap[g4]? = _) := Lib.hid ((blk_two u12 g3 g4 (.int .i64 (px + Cl.rround ⟨ln, ld⟩ (qx - px))) (.int .i64 (py + Cl.rround ⟨ln, ld⟩ (qy - py))) (Ne.symm neg3g4)).trans T0.out)
        have BB1 : Hid (Below g0 w ((u12.setCell ⟨g3, 0, none⟩ (.int .i64 (px + Cl.rround ⟨ln, ld⟩ (qx - px)))).setCell ⟨g3, 1, none⟩ (.int .i64 (py + Cl.rround ⟨ln, ld⟩ (qy - py))))) := Lib.hid ((BB.out.setCell (by simp; omega) _).setCell (by simp; omega) _)
        refine hK.out _ _ (by obtain ⟨c0, c1, cx, cy, l0, l1, h0, h1, o0⟩ := hHeld; exact ⟨((cell_far _ _ _ _ neg0g3).trans (cell_far _ _ _ _ neg0g3)).trans c0, ((cell_far _ _ _ _ neg0g3).trans (cell_far _ _ _ _ neg0g3)).trans c1, ((cell_far _ _ _ _ negxg3).trans (cell_far _ _ _ _ negxg3)).trans cx, ((cell_far _ _ _ _ negyg3).trans (cell_far _ _ _ _ negyg3)).trans cy, ((cell_far _ _ _ _ neg5g3).trans (cell_far _ _ _ _ neg5g3)).trans l0, ((cell_far _ _ _ _ neg5g3).trans (cell_far _ _ _ _ neg5g3)).trans l1, ((cell_far _ _ _ _ neg6g3).trans (cell_far _ _ _ _ neg6g3)).trans h0, ((cell_far _ _ _ _ neg6g3).trans (cell_far _ _ _ _ neg6g3)).trans h1, ((cell_far _ _ _ _ neg7g3).trans (cell_far _ _ _ _ neg7g3)).trans o0⟩) (fun hHeld2 => ?_)
        clear hK K hHeld
        have hHeld := hHeld2; clear hHeld2
        try simp only [Act.put, List.setIfInBounds_toArray, List.set_cons_zero, List.set_cons_succ]
        clear r0 r1 rf0 rf1 R0 T0 BB
        generalize ((u12.setCell ⟨g3, 0, none⟩ (.int .i64 (px + Cl.rround ⟨ln, ld⟩ (qx - px)))).setCell ⟨g3, 1, none⟩ (.int .i64 (py + Cl.rround ⟨ln, ld⟩ (qy - py)))) = v15 at *
        have R0 := R1; have T0 := T1; have BB := BB1; clear R1 T1 BB1
        obtain ⟨r0, r1⟩ := cell_two T0.out; have rf0 := free_blk T0.out 0; have rf1 := free_blk T0.out 1
        refine wpAnyH_ready (rs := [16]) (by kernel_rfl) (by simp) ?_
        refine AllReadyH.cons (o := _) rfl (fun K hK => ?_) AllReadyH.nil
        go_simp
        have R1 : Hid (((v15.setCell ⟨g4, 0, none⟩ (.int .i64 (px + Cl.rround ⟨hn, hd⟩ (qx - px)))).setCell ⟨g4, 1, none⟩ (.int .i64 (py + Cl.rround ⟨hn, hd⟩ (qy - py)))).heap[g4]? = _) := Lib.hid (set_two T0.out (.int .i64 (px + Cl.rround ⟨hn, hd⟩ (qx - px))) (.int .i64 (py + Cl.rround ⟨hn, hd⟩ (qy - py)))); have T1 : Hid (((v15.setCell ⟨g4, 0, none⟩ (.int .i64 (px + Cl.rround ⟨hn, hd⟩ (qx - px)))).setCell ⟨g4, 1, none⟩ (.int .i64 (py + Cl.rround ⟨hn, hd⟩ (qy - py)))).heap[g3]? = _) := Lib.hid ((blk_two v15 g4 g3 (.int .i64 (px + Cl.rround ⟨hn, hd⟩ (qx - px))) (.int .i64 (py + Cl.rround ⟨hn, hd⟩ (qy - py))) neg3g4).trans R0.out)
        have BB1 : Hid (Below g0 w ((v15.setCell ⟨g4, 0, none⟩ (.int .i64 (px + Cl.rround ⟨hn, hd⟩ (qx - px)))).setCell ⟨g4, 1, none⟩ (.int .i64 (py + Cl.rround ⟨hn, hd⟩ (qy - py))))) := Lib.hid ((BB.out.setCell (by simp; omega) _).setCell (by simp; omega) _)
        refine hK.out _ _ (by obtain ⟨c0, c1, cx, cy, l0, l1, h0, h1, o0⟩ := hHeld; exact ⟨((cell_far _ _ _ _ neg0g4).trans (cell_far _ _ _ _ neg0g4)).trans c0, ((cell_far _ _ _ _ neg0g4).trans (cell_far _ _ _ _ neg0g4)).trans c1, ((cell_far _ _ _ _ negxg4).trans (cell_far _ _ _ _ negxg4)).trans cx, ((cell_far _ _ _ _ negyg4).trans (cell_far _ _ _ _ negyg4)).trans cy, ((cell_far _ _ _ _ neg5g4).trans (cell_far _ _ _ _ neg5g4)).trans l0, ((cell_far _ _ _ _ neg5g4).trans (cell_far _ _ _ _ neg5g4)).trans l1, ((cell_far _ _ _ _ neg6g4).trans (cell_far _ _ _ _ neg6g4)).trans h0, ((cell_far _ _ _ _ neg6g4).trans (cell_far _ _ _ _ neg6g4)).trans h1, ((cell_far _ _ _ _ neg7g4).trans (cell_far _ _ _ _ neg7g4)).trans o0⟩) (fun hHeld2 => ?_)
        clear hK K hHeld
        have hHeld := hHeld2; clear hHeld2
        try simp only [Act.put, List.setIfInBounds_toArray, List.set_cons_zero, List.set_cons_succ]
        clear r0 r1 rf0 rf1 R0 T0 BB
        generalize ((v15.setCell ⟨g4, 0, none⟩ (.int .i64 (px + Cl.rround ⟨hn, hd⟩ (qx - px)))).setCell ⟨g4, 1, none⟩ (.int .i64 (py + Cl.rround ⟨hn, hd⟩ (qy - py)))) = v16 at *
        have T0 := R1; have R0 := T1; have BB := BB1; clear R1 T1 BB1
        refine wpAnyH_ready (rs := [17]) (by kernel_rfl) (by simp) ?_
        refine AllReadyH.cons (o := _) rfl (fun K hK => ?_) AllReadyH.nil
        go_simp
        refine hK.out _ _ (hHeld) (fun hHeld2 => ?_)
        clear hK K hHeld
        have hHeld := hHeld2; clear hHeld2
        try simp only [Act.put, List.setIfInBounds_toArray, List.set_cons_zero, List.set_cons_succ]
        refine wpAnyH_done (by kernel_rfl) ?_ _
        refine NoPanic.normal ?_
        go_wp2
        obtain ⟨r0, r1⟩ := cell_two R0.out; obtain ⟨t0, t1⟩ := cell_two T0.out
        refine bodyPost_ret (v := .tuple #[.agg #[.int .i64 (px + Cl.rround ⟨ln, ld⟩ (qx - px)), .int .i64 (py + Cl.rround ⟨ln, ld⟩ (qy - py))], .agg #[.int .i64 (px + Cl.rround ⟨hn, hd⟩ (qx - px)), .int .i64 (py + Cl.rround ⟨hn, hd⟩ (qy - py))], .bool (!Cl.rless ⟨hn, hd⟩ ⟨ln, ld⟩)]) (by simp [results, Try.results29, go_sem, r0, r1, t0, t1]) rfl ⟨?_, ?_⟩
        · rw [HPA.out, HPB.out, HOK.out]; rfl
        · have := hw0.out; subst this; exact BB.out
end Go.Proofs.Ytdiknijbjmhacaa
