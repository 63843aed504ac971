/- WALKS: slices.Compact at points, in place. -/
import Derived.Test.YtdiknijbjmhacaaD3
import Derived.Test.YtdiknijbjmhacaaC3
import Derived.Test.YtdiknijbjmhacaaK9
import Derived.Lib.SliceRun
import Derived.Lib.LazyBuf
import Derived.Shelf.SlSortFuncK.RowK2
set_option linter.unusedSimpArgs false
set_option linter.unusedVariables false
namespace Go.Proofs.Ytdiknijbjmhacaa
open Go.RowKit

theorem blk_set {w : World} {g : Nat} {t : TypeId} {fr : Nat × Nat} (h : ∃ cs, w.heap[g]? = some (.cells cs t fr)) (p : Addr) (u : Value) : ∃ cs, (w.setCell p u).heap[g]? = some (.cells cs t fr) := by
  obtain ⟨cs, h⟩ := h
  by_cases e : p.block = g
  · have : ∃ o, (w.setCell p u).heap[g]? = some o ∧ ∃ cs, o = .cells cs t fr := by
      simp only [World.setCell, Array.getElem?_modify, e, if_true, h]
      exact ⟨_, rfl, _, rfl⟩
    obtain ⟨o, h1, cs', rfl⟩ := this
    exact ⟨cs', h1⟩
  · exact ⟨cs, (Below.heap_setCell _ _ _ _ (fun e' => e e'.symm)).trans h⟩
theorem blk_setCells {g b : Nat} {t : TypeId} {fr : Nat × Nat} : ∀ (vs : List Value) (o : Nat) (w : World), (∃ cs, w.heap[g]? = some (.cells cs t fr)) → ∃ cs, (w.setCells b o vs).heap[g]? = some (.cells cs t fr)
  | [], _, _, h => h
  | v :: r, o, w, h => blk_setCells r (o + 1) _ (blk_set h _ _)
/-- a row of points that may be written -/
structure PtRow (w : World) (g off : Nat) (m : List Cl.Pt) : Prop where
  blk : ∃ cs, w.heap[g]? = some (.cells cs 24 (0, 0))
  cell : ∀ i (h : i < m.length), w.cell? ⟨g, off + i * 2, none⟩ = some (.int .i64 m[i].1) ∧ w.cell? ⟨g, off + i * 2 + 1, none⟩ = some (.int .i64 m[i].2)
theorem PtRow.lt {w : World} {g off : Nat} {m : List Cl.Pt} (h : PtRow w g off m) : g < w.heap.size := by obtain ⟨cs, h⟩ := h.blk; exact lt_of_block h
theorem PtRow.free {w : World} {g off : Nat} {m : List Cl.Pt} (h : PtRow w g off m) (i : Nat) : w.frozen? ⟨g, i, none⟩ = false := by obtain ⟨cs, h⟩ := h.blk; simp [World.frozen?, h]
theorem PtRow.drewN {w : World} {g off : Nat} {m : List Cl.Pt} (h : PtRow w g off m) (n : Nat) : PtRow (w.drewN n) g off m := ⟨h.blk, h.cell⟩
theorem PtRow.take {w : World} {g off : Nat} {m : List Cl.Pt} (h : PtRow w g off m) (k : Nat) : PtRow w g off (m.take k) :=
  ⟨h.blk, fun i hi => by
    have hi' : i < m.length := by simp at hi; omega
    have := h.cell i hi'
    rw [List.getElem_take]; exact this⟩
theorem PtRow.keep {w w' : World} {g off : Nat} {m : List Cl.Pt} (h : PtRow w g off m) (hb : w'.heap[g]? = w.heap[g]?) : PtRow w' g off m :=
  ⟨by rw [hb]; exact h.blk, fun i hi => by rw [cell_same (p := ⟨g, off + i * 2, none⟩) hb, cell_same (p := ⟨g, off + i * 2 + 1, none⟩) hb]; exact h.cell i hi⟩
theorem pt_at (w : World) (g off : Nat) (m : List Cl.Pt) (h : ∀ i (h : i < m.length), w.cell? ⟨g, off + i * 2, none⟩ = some (.int .i64 m[i].1) ∧ w.cell? ⟨g, off + i * 2 + 1, none⟩ = some (.int .i64 m[i].2)) :
    ∀ i u, (m.flatMap ptCells)[i]? = some u → w.cell? ⟨g, off + i, none⟩ = some u := by
  intro i u hu
  have hi := (List.getElem?_eq_some_iff.1 hu).1
  rw [ptCells_len] at hi
  obtain ⟨h1, h2⟩ := ptCells_at m (i / 2) (by omega)
  obtain ⟨c1, c2⟩ := h (i / 2) (by omega)
  rcases Nat.mod_two_eq_zero_or_one i with e | e
  · have e' : i = i / 2 * 2 := by omega
    rw [← e'] at h1 c1
    rw [h1] at hu; cases hu; exact c1
  · have e' : i = i / 2 * 2 + 1 := by omega
    rw [Nat.add_assoc] at c2
    rw [← e'] at h2 c2
    rw [h2] at hu; cases hu; exact c2
theorem PtRow.rp {w : World} {g off : Nat} {m : List Cl.Pt} (h : PtRow w g off m) : Rp w (some ⟨g, off, none⟩) m := fun _ => ⟨g, off, rfl, h.lt, pt_at w g off m h.cell⟩
theorem PtRow.of_own {w : World} {base n c : Nat} {g off : Nat} {m : List Cl.Pt} (h : w.ownsRow base 24 2 (.slice (some ⟨g, off, none⟩) n c) n (m.flatMap ptCells)) : PtRow w g off m := by
  have hr : Rd w (some ⟨g, off, none⟩) (m.flatMap ptCells) := by
    rcases h.2 with ⟨hv, _⟩ | ⟨g', cap, cur, hv, _, hg, _, _, _, ht⟩
    · cases hv
    · injection hv with hA _ _
      rw [hA]
      exact Rd.of_row hg (by rw [← ht]; exact List.take_prefix _ _)
  refine ⟨?_, fun i hi => ?_⟩
  · rcases h.2 with ⟨hv, _⟩ | ⟨g', cap, cur, hv, _, hg, _⟩
    · cases hv
    · injection hv with hA _ _
      injection hA with hA; injection hA with hA _ _
      subst hA; exact ⟨cur, hg⟩
  · obtain ⟨b, o, e, _, h1, h2⟩ := Rp.at_ (l := m) hr hi
    cases e; exact ⟨h1, h2⟩
theorem PtRow.set {w : World} {g off : Nat} {m : List Cl.Pt} (h : PtRow w g off m) {k : Nat} (hk : k < m.length) (p : Cl.Pt) :
    PtRow ((w.setCell ⟨g, off + k * 2, none⟩ (.int .i64 p.1)).setCell ⟨g, off + k * 2 + 1, none⟩ (.int .i64 p.2)) g off (m.set k p) := by
  obtain ⟨a1, a2⟩ := h.cell k hk
  have hne : ∀ x y : Nat, x ≠ y → (⟨g, x, none⟩ : Addr) ≠ ⟨g, y, none⟩ := by intro x y h e; injection e with _ e2 _; exact h e2
  refine ⟨blk_set (blk_set h.blk _ _) _ _, fun i hi => ?_⟩
  have hi' : i < m.length := by simpa using hi
  by_cases e : i = k
  · subst e
    simp only [List.getElem_set_self]
    constructor
    · rw [World.cell?_setCell_other _ _ _ _ (hne _ _ (by omega))]; exact World.cell?_setCell_same _ _ _ a1
    · refine World.cell?_setCell_same _ _ _ (u := .int .i64 m[i].2) ?_
      rw [World.cell?_setCell_other _ _ _ _ (hne _ _ (by omega))]; exact a2
  · rw [List.getElem_set_ne (fun e' => e e'.symm)]
    obtain ⟨b1, b2⟩ := h.cell i hi'
    constructor
    · rw [World.cell?_setCell_other _ _ _ _ (hne _ _ (by omega)), World.cell?_setCell_other _ _ _ _ (hne _ _ (by omega))]; exact b1
    · rw [World.cell?_setCell_other _ _ _ _ (hne _ _ (by omega)), World.cell?_setCell_other _ _ _ _ (hne _ _ (by omega))]; exact b2

/-- 'clear' at points: both numbers of each element are zero -/
theorem run_clear_pts {P : Program} (w : World) (t e ty : TypeId) (bytes : Nat) (ht : P.underlying t = some (.slice e)) (hinfo : (P.info? e).map (fun i => (i.zero, i.size, i.bytes)) = some (some (.agg #[.int .i64 0, .int .i64 0]), 2, bytes))
    (b o n c : Nat) (hn : 0 < n) (hc : ∀ j, j < n * 2 → (w.cell? ⟨b, o + j, none⟩).isSome = true) (hf : ∀ j, j < n * 2 → w.frozen? ⟨b, o + j, none⟩ = false) :
    (Builtin.clear_ #[t] ty #[.slice (some ⟨b, o, none⟩) n c]).run P w = .ok (.tuple #[]) (w.setCells b o (List.replicate (n * 2) (.int .i64 0))) := by
  obtain ⟨i, hi, hz, hs, hb⟩ := info_parts hinfo
  have hv : (zeroValue e).run P w = .ok (.agg #[.int .i64 0, .int .i64 0]) w := by simp [zeroValue, typeInfo, hi, hz]
  have hzc : (Builtin.zeroCells #[.int .i64 0, .int .i64 0] n).toList = List.replicate (n * 2) (.int .i64 0) := by
    simp [Builtin.zeroCells]
    apply List.ext_getElem
    · simp
    · intro i h1 h2
      simp
      rcases Nat.mod_two_eq_zero_or_one i with e | e <;> simp [e]
  have hst := run_storeCells_cells (P := P) b o (List.replicate (n * 2) (.int .i64 0)) 0 w (by simpa using hc) (by simpa using hf) (by intro v hv'; rw [List.eq_of_mem_replicate hv']; rfl)
  simp only [Nat.add_zero] at hst
  obtain ⟨m, rfl⟩ : ∃ m, n = m + 1 := ⟨n - 1, by omega⟩
  have hzc' : (Builtin.zeroCells (Value.agg #[.int .i64 0, .int .i64 0]).cells (m + 1)).toList = List.replicate ((m + 1) * 2) (.int .i64 0) := hzc
  simp [Builtin.clear_, run_underlying ht, hv, hzc', hst]

theorem PtRow.clear {w : World} {g off : Nat} {m : List Cl.Pt} (h : PtRow w g off m) (k n : Nat) (u : Value) : PtRow (w.setCells g (off + k * 2) (List.replicate n u)) g off (m.take k) := by
  refine ⟨blk_setCells _ _ _ h.blk, fun i hi => ?_⟩
  obtain ⟨h1, h2⟩ := (h.take k).cell i hi
  have : i < k := by simp at hi; omega
  constructor
  · rw [World.cell?_setCells_out]; · exact h1
    · intro _ _; left; simp; omega
  · rw [World.cell?_setCells_out]; · exact h2
    · intro _ _; left; simp; omega

theorem But.setCells {X : Nat → Prop} {a : World} {g : Nat} (hg : X g) : ∀ (vs : List Value) (o : Nat) (b : World), But X a b → But X a (b.setCells g o vs)
  | [], _, _, h => h
  | v :: r, o, b, h => But.setCells hg r (o + 1) _ (h.set hg v)
end Go.Proofs.Ytdiknijbjmhacaa
