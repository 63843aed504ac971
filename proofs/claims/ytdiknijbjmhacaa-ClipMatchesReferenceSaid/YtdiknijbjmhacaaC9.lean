/- WALKS: clip.Line: what it keeps while it gathers; the end of a part. -/
import Derived.Test.YtdiknijbjmhacaaC8
set_option linter.unusedSimpArgs false
set_option linter.unusedVariables false
namespace Go.Proofs.Ytdiknijbjmhacaa
open Go.RowKit

/-- a block of points -/
def PtBlk (w : World) (k : Nat) : Prop := ∃ cs, w.heap[k]? = some (.cells cs 24 (0, 0))
theorem PtBlk.lt {w : World} {k : Nat} (h : PtBlk w k) : k < w.heap.size := by obtain ⟨cs, h⟩ := h; exact lt_of_block h
/-- a part: a slice of points whose block lies from lo on, below hi -/
def PartAt (w : World) (lo hi : Nat) (v : Value) (p : List Cl.Pt) : Prop :=
  ∃ g off c, v = .slice (some ⟨g, off, none⟩) p.length c ∧ lo ≤ g ∧ g < hi ∧ PtRow w g off p ∧ p.length ≤ c ∧ c ≤ maxLen
structure PartsAt (w : World) (lo hi : Nat) (vs : List Value) (ps : List (List Cl.Pt)) : Prop where
  len : vs.length = ps.length
  at_ : ∀ (i : Nat) (v : Value) (p : List Cl.Pt), vs[i]? = some v → ps[i]? = some p → PartAt w lo hi v p
theorem PartAt.keep {w w' : World} {lo hi : Nat} {v : Value} {p : List Cl.Pt} (h : PartAt w lo hi v p) (hk : ∀ k, lo ≤ k → k < hi → PtBlk w k → w'.heap[k]? = w.heap[k]?) : PartAt w' lo hi v p := by
  obtain ⟨g, off, c, e, h1, h2, h3, h4⟩ := h
  exact ⟨g, off, c, e, h1, h2, h3.keep (hk g h1 h2 h3.blk), h4⟩
theorem PartAt.wide {w : World} {lo hi hi' : Nat} {v : Value} {p : List Cl.Pt} (h : PartAt w lo hi v p) (hh : hi ≤ hi') : PartAt w lo hi' v p := by
  obtain ⟨g, off, c, e, h1, h2, h3⟩ := h
  exact ⟨g, off, c, e, h1, by omega, h3⟩
theorem PartsAt.keep {w w' : World} {lo hi : Nat} {vs : List Value} {ps : List (List Cl.Pt)} (h : PartsAt w lo hi vs ps) (hk : ∀ k, lo ≤ k → k < hi → PtBlk w k → w'.heap[k]? = w.heap[k]?) : PartsAt w' lo hi vs ps :=
  ⟨h.len, fun i v p h1 h2 => (h.at_ i v p h1 h2).keep hk⟩
theorem PartsAt.wide {w : World} {lo hi hi' : Nat} {vs : List Value} {ps : List (List Cl.Pt)} (h : PartsAt w lo hi vs ps) (hh : hi ≤ hi') : PartsAt w lo hi' vs ps :=
  ⟨h.len, fun i v p h1 h2 => (h.at_ i v p h1 h2).wide hh⟩
theorem PartsAt.nil_ (w : World) (lo hi : Nat) : PartsAt w lo hi [] [] := ⟨rfl, fun i v p h1 _ => by simp at h1⟩
theorem PartsAt.snoc {w : World} {lo hi : Nat} {vs : List Value} {ps : List (List Cl.Pt)} {v : Value} {p : List Cl.Pt} (h : PartsAt w lo hi vs ps) (hp : PartAt w lo hi v p) : PartsAt w lo hi (vs ++ [v]) (ps ++ [p]) := by
  refine ⟨by simp [h.len], fun i u q h1 h2 => ?_⟩
  have hl := h.len
  rcases Nat.lt_or_ge i ps.length with hi | hi
  · rw [List.getElem?_append_left (by omega)] at h1
    rw [List.getElem?_append_left hi] at h2
    exact h.at_ i u q h1 h2
  · rw [List.getElem?_append_right (by omega)] at h1
    rw [List.getElem?_append_right hi] at h2
    have : i - ps.length = 0 := by
      rcases Nat.eq_zero_or_pos (i - ps.length) with h0 | h0
      · exact h0
      · rw [List.getElem?_eq_none (by simp; omega)] at h2; cases h2
    rw [hl, this] at h1
    rw [this] at h2
    cases h1; cases h2; exact hp

/-- an owned row, while no block from its base on turns -/
theorem own_keep {w w' : World} {base size n : Nat} {e : TypeId} {v : Value} {xs : List Value} (h : w.ownsRow base e size v n xs) (hk : ∀ k cs, base ≤ k → w.heap[k]? = some (.cells cs e (0, 0)) → w'.heap[k]? = w.heap[k]?) : w'.ownsRow base e size v n xs := by
  refine ⟨h.1, ?_⟩
  rcases h.2 with h2 | ⟨g, cap, cur, h1, h2, h3, h4⟩
  · exact .inl h2
  · exact .inr ⟨g, cap, cur, h1, h2, (hk g _ h2 h3).trans h3, h4⟩

/-- the parts that are finished -/
structure LineO (w : World) (go base hi : Nat) (vo : Value) (vs : List Value) (ps : List (List Cl.Pt)) : Prop where
  co : w.heap[go]? = some (.cells #[vo] 29 (0, 0))
  lo : go < base
  hb : base ≤ hi
  hh : hi ≤ w.heap.size
  out : w.ownsRow base 22 1 vo ps.length vs
  parts : PartsAt w base hi vs ps
/-- and the part that is gathered -/
structure LineSt (w : World) (gn go base hi : Nat) (vn vo : Value) (now : List Cl.Pt) (vs : List Value) (ps : List (List Cl.Pt)) : Prop where
  o : LineO w go base hi vo vs ps
  cn : w.heap[gn]? = some (.cells #[vn] 22 (0, 0))
  ne : gn ≠ go
  ln : gn < base
  now : w.ownsRow hi 24 2 vn now.length (now.flatMap ptCells)
def X4 (gn go base top : Nat) (k : Nat) : Prop := k = gn ∨ k = go ∨ (base ≤ k ∧ k < top)

theorem LineO.keep {w w1 : World} {go base hi hi' : Nat} {vo : Value} {vs : List Value} {ps : List (List Cl.Pt)} (h : LineO w go base hi vo vs ps)
    (hk : ∀ k, k < w.heap.size → k = go ∨ (base ≤ k ∧ (k < hi ∨ ¬ PtBlk w k)) → w1.heap[k]? = w.heap[k]?) (h1 : hi ≤ hi') (h2 : hi' ≤ w1.heap.size) : LineO w1 go base hi' vo vs ps := by
  have hl := h.lo; have hb := h.hb
  refine ⟨(hk _ (lt_of_block h.co) (.inl rfl)).trans h.co, hl, by omega, h2, ?_, ?_⟩
  · refine own_keep h.out fun k cs hb hc => hk k (lt_of_block hc) (.inr ⟨hb, .inr ?_⟩)
    rintro ⟨ds, hd⟩
    rw [hc] at hd; injection hd with hd; injection hd with _ hd _; exact absurd hd (by decide)
  · exact (h.parts.keep fun k h1 h2 hc => hk k hc.lt (.inr ⟨h1, .inl h2⟩)).wide h1
theorem LineO.below {w w1 : World} {go base hi hi' : Nat} {vo : Value} {vs : List Value} {ps : List (List Cl.Pt)} (h : LineO w go base hi vo vs ps) (hb : Below w.heap.size w w1) (h1 : hi ≤ hi') (h2 : hi' ≤ w1.heap.size) : LineO w1 go base hi' vo vs ps :=
  h.keep (fun k hk _ => hb.block k hk) h1 h2
theorem LineSt.keep {w w' : World} {gn go base hi : Nat} {vn vo : Value} {now : List Cl.Pt} {vs : List Value} {ps : List (List Cl.Pt)} (h : LineSt w gn go base hi vn vo now vs ps) (hb : Below w.heap.size w w') : LineSt w' gn go base hi vn vo now vs ps :=
  ⟨h.o.below hb (Nat.le_refl _) (Nat.le_trans h.o.hh hb.size), (hb.block _ (lt_of_block h.cn)).trans h.cn, h.ne, h.ln, own_keep h.now fun k cs _ hc => hb.block k (lt_of_block hc)⟩
/-- a part more -/
theorem LineO.more {w w2 : World} {go base hi : Nat} {vo v v' : Value} {p : List Cl.Pt} {vs : List Value} {ps : List (List Cl.Pt)} (h : LineO w go base hi vo vs ps)
    (ho : w2.ownsRow base 22 1 v' (ps.length + 1) (vs ++ [v])) (hb : Below base w w2) (hk : ∀ k, PtBlk w k → w2.heap[k]? = w.heap[k]?) (hp : PartAt w base hi v p) :
    LineO (w2.setCell ⟨go, 0, none⟩ v') go base hi v' (vs ++ [v]) (ps ++ [p]) := by
  have off : ∀ k, k ≠ go → (w2.setCell ⟨go, 0, none⟩ v').heap[k]? = w2.heap[k]? := fun k hk => Below.heap_setCell _ _ _ _ hk
  have hl := h.lo; have hh := h.hb
  have hc : w2.heap[go]? = some (.cells #[vo] 29 (0, 0)) := (hb.block _ hl).trans h.co
  refine ⟨by simp [World.setCell, Array.getElem?_modify, hc], hl, hh, by have := h.hh; have := hb.size; simp; omega, ?_, ?_⟩
  · rw [List.length_append]
    exact own_keep ho fun k cs hb' hc' => off k (by omega)
  · exact (h.parts.snoc hp).keep fun k h1 h2 hc' => by rw [off k (by omega)]; exact hk k hc'
/-- the list that is gathered is another one -/
theorem LineSt.mk1 {w : World} {gn go base hi : Nat} {vo v u : Value} {now : List Cl.Pt} {vs : List Value} {ps : List (List Cl.Pt)} (h : LineO w go base hi vo vs ps) (hn : w.heap[gn]? = some (.cells #[u] 22 (0, 0)))
    (ne : gn ≠ go) (ln : gn < base) (ho : w.ownsRow hi 24 2 v now.length (now.flatMap ptCells)) : LineSt (w.setCell ⟨gn, 0, none⟩ v) gn go base hi v vo now vs ps := by
  have off : ∀ k, k ≠ gn → (w.setCell ⟨gn, 0, none⟩ v).heap[k]? = w.heap[k]? := fun k hk => Below.heap_setCell _ _ _ _ hk
  have hb := h.hb
  have hlo := h.lo
  exact ⟨h.keep (fun k _ hk => off k (by omega)) (Nat.le_refl _) (by simpa using h.hh), by simp [World.setCell, Array.getElem?_modify, hn], ne, ln, own_keep ho fun k cs hb' _ => off k (by omega)⟩
theorem one_set {w : World} {g : Nat} {v u : Value} {t : TypeId} (h : w.heap[g]? = some (.cells #[v] t (0, 0))) : (w.setCell ⟨g, 0, none⟩ u).heap[g]? = some (.cells #[u] t (0, 0)) := by simp [World.setCell, Array.getElem?_modify, h]
theorem LineO.setn {w : World} {gn go base hi : Nat} {vo u : Value} {vs : List Value} {ps : List (List Cl.Pt)} (h : LineO w go base hi vo vs ps) (ne : gn ≠ go) (ln : gn < base) : LineO (w.setCell ⟨gn, 0, none⟩ u) go base hi vo vs ps := by
  have hb := h.hb
  exact h.keep (fun k _ hk => Below.heap_setCell w ⟨gn, 0, none⟩ u k (by show k ≠ gn; omega)) (Nat.le_refl _) (by simpa using h.hh)
end Go.Proofs.Ytdiknijbjmhacaa
