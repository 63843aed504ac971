/- REFERENCE: OpenReader: its words. -/
import Derived.Test.YtfhgidbmeifflaaPH
set_option linter.unusedSimpArgs false
set_option linter.unusedVariables false
namespace Go.Proofs.Ytfhgidbmeifflaa
open Go.RowKit Go.Maps Go.ChangeMaps Go.MapKept Go.WideShapes Go.WideMaps

def cntO (l : List Bool) : Nat := (l.filter id).length
theorem cntO_take (l : List Bool) {k : Nat} (h : k < l.length) : cntO (l.take (k + 1)) = cntO (l.take k) + (if l[k] then 1 else 0) := by
  unfold cntO
  rw [List.take_succ_eq_append_getElem h, List.filter_append, List.length_append]
  cases l[k] <;> rfl
/-- a reference shelf whose readers are one more than its marks -/
structure RHalf (w : World) (q : Nat) (G : Nat → Prop) (t : RSh) (vn vr vo vk : Value) (vs : List Value) : Prop where
  blk : w.heap[q]? = some (.cells #[.int .i64 (t.ver : Int), vn, vr, vo, vk, .int .i64 (t.count : Int)] 58 (0, 0))
  en : w.ownsRow 0 68 3 vn t.newest.length (entsC t.newest)
  ek : w.ownsRow 0 68 3 vk t.kept.length (entsC t.kept)
  er : w.ownsRow 0 54 1 vr vs.length vs
  lr : vs.length = t.readers.length
  el : ∀ i (h : i < vs.length) (h' : i < t.readers.length), w.ownsRow 0 68 3 vs[i] t.readers[i].length (entsC t.readers[i])
  eo : w.ownsRow 0 4 1 vo t.opn.length (t.opn.map .bool)
  gq : G q
  gn : ∀ g, vn.ownBlock = some g → G g
  gk : ∀ g, vk.ownBlock = some g → G g
  gr : ∀ g, vr.ownBlock = some g → G g
  go : ∀ g, vo.ownBlock = some g → G g
  gl : ∀ i (h : i < vs.length) g, vs[i].ownBlock = some g → G g
  lt : ∀ g, G g → g < w.heap.size
theorem RHalf.keep {w w' : World} {q : Nat} {G : Nat → Prop} {t : RSh} {vn vr vo vk : Value} {vs : List Value} (h : RHalf w q G t vn vr vo vk vs) (hz : w.heap.size ≤ w'.heap.size) (hb : ∀ g, G g → w'.heap[g]? = w.heap[g]?) : RHalf w' q G t vn vr vo vk vs :=
  ⟨(hb q h.gq).trans h.blk, own_same h.en (fun g hg => hb g (h.gn g hg)), own_same h.ek (fun g hg => hb g (h.gk g hg)), own_same h.er (fun g hg => hb g (h.gr g hg)), h.lr, fun i hi hi' => own_same (h.el i hi hi') (fun g hg => hb g (h.gl i hi g hg)), own_same h.eo (fun g hg => hb g (h.go g hg)), h.gq, h.gn, h.gk, h.gr, h.go, h.gl, fun g hg => Nat.lt_of_lt_of_le (h.lt g hg) hz⟩
theorem RefMem.grow {w : World} {q : Nat} {G : Nat → Prop} {t : RSh} {vn vr vo vk : Value} {vs : List Value} (h : RefMem w q G t vn vr vo vk vs) {vr9 v12 : Value} {l : List Ent} {n : Nat} (hn : n = vs.length + 1)
    (hr : w.ownsRow 0 54 1 vr9 n (vs ++ [v12])) (h12 : w.ownsRow 0 68 3 v12 l.length (entsC l)) :
    RHalf (w.setCell ⟨q, 2, none⟩ vr9) q (fun g => G g ∨ vr9.ownBlock = some g ∨ v12.ownBlock = some g) { t with readers := t.readers ++ [l] } vn vr9 vo vk (vs ++ [v12]) := by
  subst hn
  obtain ⟨a1, a2, a3, a4, a5⟩ := h.setQ 2 vr9
  refine ⟨?_, a1, a2, ?_, ?_, fun i hi hi' => ?_, a5, .inl h.gq, fun g hg => .inl (h.gn g hg), fun g hg => .inl (h.gk g hg), fun g hg => .inr (.inl hg), fun g hg => .inl (h.go g hg), fun i hi g hg => ?_, fun g hg => ?_⟩
  · simp [World.setCell, Array.getElem?_modify, h.blk]
  · have := own_set_q (f := 2) (u := vr9) hr (fun g hg => h.ne_q hr (by decide) hg)
    rw [List.length_append]
    exact this
  · rw [List.length_append, List.length_append, h.lr]; rfl
  · by_cases e : i < vs.length
    · have e' : i < t.readers.length := by rw [← h.lr]; exact e
      simp only [List.getElem_append_left e, List.getElem_append_left e']
      exact a4 i e e'
    · have hi2 : i < vs.length + 1 := by simpa using hi
      obtain rfl : i = vs.length := by omega
      have e2 : (vs ++ [v12])[vs.length]'hi = v12 := by simp
      have e3 : (t.readers ++ [l])[vs.length]'hi' = l := by rw [List.getElem_append_right (by rw [h.lr]; exact Nat.le_refl _)]; simp
      show World.ownsRow _ _ _ _ ((vs ++ [v12])[vs.length]'hi) ((t.readers ++ [l])[vs.length]'hi').length (entsC ((t.readers ++ [l])[vs.length]'hi'))
      rw [e2, e3]
      exact own_set_q h12 (fun g hg => h.ne_q h12 (by decide) hg)
  · by_cases e : i < vs.length
    · rw [List.getElem_append_left e] at hg
      exact .inl (h.gl i e g hg)
    · have hi2 : i < vs.length + 1 := by simpa using hi
      obtain rfl : i = vs.length := by omega
      have e2 : (vs ++ [v12])[vs.length]'hi = v12 := by simp
      rw [e2] at hg
      exact .inr (.inr hg)
  · have : g < w.heap.size := by
      rcases hg with hg | hg | hg
      · exact h.lt g hg
      · exact (hr.lt g hg).2
      · exact (h12.lt g hg).2
    simpa [World.setCell] using this
theorem RHalf.ne_q {w : World} {q : Nat} {G : Nat → Prop} {t : RSh} {vn vr vo vk : Value} {vs : List Value} (h : RHalf w q G t vn vr vo vk vs) {B size n : Nat} {e : TypeId} {v : Value} {X : List Value} (ho : w.ownsRow B e size v n X) (hne : e ≠ 58) {g : Nat} (hg : v.ownBlock = some g) : g ≠ q := by
  rintro rfl
  obtain ⟨c1, h1⟩ := own_blk ho hg
  rw [h.blk] at h1
  injection h1 with h1
  injection h1 with _ h1 _
  exact hne h1.symm
theorem RHalf.full {w : World} {q : Nat} {G : Nat → Prop} {t : RSh} {vn vr vo vk : Value} {vs : List Value} (h : RHalf w q G t vn vr vo vk vs) {v : Value} {l : List Bool} (hl : l.length = t.readers.length) {n : Nat} (hn : n = l.length) (ho : w.ownsRow 0 4 1 v n (l.map .bool)) :
    RefMem (w.setCell ⟨q, 3, none⟩ v) q (fun g => G g ∨ v.ownBlock = some g) { t with opn := l } vn vr v vk vs := by
  subst hn
  have k : ∀ {e : TypeId} {size n : Nat} {u : Value} {X : List Value}, w.ownsRow 0 e size u n X → e ≠ 58 → (w.setCell ⟨q, 3, none⟩ v).ownsRow 0 e size u n X := fun h1 hne => own_set_q h1 (fun g hg => h.ne_q h1 hne hg)
  refine ⟨?_, k h.en (by decide), k h.ek (by decide), k h.er (by decide), h.lr, fun i hi hi' => k (h.el i hi hi') (by decide), hl, k ho (by decide), .inl h.gq, fun g hg => .inl (h.gn g hg), fun g hg => .inl (h.gk g hg), fun g hg => .inl (h.gr g hg), fun g hg => .inr hg, fun i hi g hg => .inl (h.gl i hi g hg), fun g hg => ?_⟩
  · simp [World.setCell, Array.getElem?_modify, h.blk]
  · have : g < w.heap.size := hg.elim (h.lt g) (fun e => (ho.lt g e).2)
    simpa [World.setCell] using this
theorem RefMem.ones {w : World} {q : Nat} {G : Nat → Prop} {t : RSh} {vn vr vo vk : Value} {vs : List Value} (h : RefMem w q G t vn vr vo vk vs) : ∀ u ∈ vs, u.oneCell' = true := by
  intro u hu
  obtain ⟨i, hi, rfl⟩ := List.mem_iff_getElem.1 hu
  obtain ⟨A, c, e, -⟩ := own_sl (h.el i hi (by rw [← h.lr]; exact hi))
  rw [e]; rfl
theorem own_emptyL (w : World) {cs : Array Value} (hcs : cs = #[]) (t : TypeId) : (w.alloc (.cells cs t)).ownsRow 0 t 1 (.slice (some ⟨w.heap.size, 0, none⟩) 0 0) 0 [] := by
  subst hcs
  exact ⟨rfl, .inr ⟨w.heap.size, 0, #[], rfl, Nat.zero_le _, heap_alloc_new w _, Nat.le_refl _, by simp [maxLen], by simp, by simp⟩⟩
theorem own_emptyB (w : World) {cs : Array Value} (hcs : cs = #[]) (t : TypeId) : (w.alloc (.cells cs t)).ownsRow w.heap.size t 1 (.slice (some ⟨w.heap.size, 0, none⟩) 0 0) 0 [] := by
  subst hcs
  exact ⟨rfl, .inr ⟨w.heap.size, 0, #[], rfl, Nat.le_refl _, heap_alloc_new w _, Nat.le_refl _, by simp [maxLen], by simp, by simp⟩⟩
theorem info_sl : (Try.prog.info? 54).map (fun i => (i.zero, i.size, i.bytes)) = some (some (.slice none 0 0), 1, 24) := by kernel_rfl
theorem info_bo : (Try.prog.info? 4).map (fun i => (i.zero, i.size, i.bytes)) = some (some (.bool false), 1, 1) := by kernel_rfl
/-- nothing but block q has changed, and the newest version's cell has not -/
def SameN (q : Nat) (Y w' : World) : Prop := SameBut q Y w' ∧ w'.cell? ⟨q, 1, none⟩ = Y.cell? ⟨q, 1, none⟩
theorem SameN.cell1 {q : Nat} {Y w' : World} (h : SameN q Y w') {v : Value} (hy : Y.cell? ⟨q, 1, none⟩ = some v) : w'.cell? ⟨q, 1, none⟩ = some v := h.2.trans hy
theorem SameN.of {q : Nat} {Y w' : World} (hq : q < Y.heap.size) (h : Below Y.heap.size Y w') : SameN q Y w' := ⟨fun k hk _ => h.block k hk, World.cell?_of_block (a := ⟨q, 1, none⟩) (h.block q hq)⟩
theorem SameN.set {q : Nat} {Y w' : World} (h : SameN q Y w') (v : Value) : SameN q Y (w'.setCell ⟨q, 2, none⟩ v) := by
  refine ⟨fun k hk hne => (Below.heap_setCell _ _ _ _ hne).trans (h.1 k hk hne), Eq.trans ?_ h.2⟩
  unfold World.cell? World.setCell
  simp only [Array.getElem?_modify]
  cases hh : w'.heap[q]? with
  | none => simp [hh]
  | some o =>
    cases o with
    | cells cs T fr => simp [hh, Array.getElem?_setIfInBounds]
    | _ => simp [hh]
def ropenF (t : RSh) : RSh × Nat × Nat := if cntO t.opn = 64 then (t, 0, 21) else ({ t with readers := t.readers ++ [t.newest], opn := t.opn ++ [true] }, t.opn.length + 1, 0)
end Go.Proofs.Ytfhgidbmeifflaa
