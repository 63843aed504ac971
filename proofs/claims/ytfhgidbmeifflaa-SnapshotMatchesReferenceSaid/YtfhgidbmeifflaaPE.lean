/- REFERENCE: what is changed in place (kept, newest, a reader's list); an append in a region that draws its order. -/
import Derived.Test.YtfhgidbmeifflaaPD
import Derived.Deep.Onto
set_option linter.unusedSimpArgs false
set_option linter.unusedVariables false
namespace Go.Proofs.Ytfhgidbmeifflaa
open Go.RowKit Go.Maps Go.ChangeMaps Go.MapKept Go.WideShapes Go.WideMaps

theorem own_set_q {w : World} {q f size n : Nat} {e : TypeId} {v u : Value} {X : List Value} (h : w.ownsRow 0 e size v n X) (hne : ∀ g, v.ownBlock = some g → g ≠ q) : (w.setCell ⟨q, f, none⟩ u).ownsRow 0 e size v n X :=
  own_same h (fun g hg => Below.heap_setCell _ _ _ _ (fun e => hne g hg e))
theorem RefMem.setQ {w : World} {q : Nat} {G : Nat → Prop} {t : RSh} {vn vr vo vk : Value} {vs : List Value} (h : RefMem w q G t vn vr vo vk vs) (f : Nat) (u : Value) :
    (w.setCell ⟨q, f, none⟩ u).ownsRow 0 68 3 vn t.newest.length (entsC t.newest) ∧ (w.setCell ⟨q, f, none⟩ u).ownsRow 0 68 3 vk t.kept.length (entsC t.kept) ∧ (w.setCell ⟨q, f, none⟩ u).ownsRow 0 54 1 vr vs.length vs ∧
    (∀ i (h : i < vs.length) (h' : i < t.readers.length), (w.setCell ⟨q, f, none⟩ u).ownsRow 0 68 3 vs[i] t.readers[i].length (entsC t.readers[i])) ∧ (w.setCell ⟨q, f, none⟩ u).ownsRow 0 4 1 vo t.opn.length (t.opn.map .bool) :=
  ⟨own_set_q h.en (fun g hg => h.ne_q h.en (by decide) hg), own_set_q h.ek (fun g hg => h.ne_q h.ek (by decide) hg), own_set_q h.er (fun g hg => h.ne_q h.er (by decide) hg), fun i hi hi' => own_set_q (h.el i hi hi') (fun g hg => h.ne_q (h.el i hi hi') (by decide) hg), own_set_q h.eo (fun g hg => h.ne_q h.eo (by decide) hg)⟩
theorem RefMem.keptSet {w : World} {q : Nat} {G : Nat → Prop} {t : RSh} {vn vr vo vk : Value} {vs : List Value} (h : RefMem w q G t vn vr vo vk vs) {v : Value} {l : List Ent} (hv : w.ownsRow 0 68 3 v l.length (entsC l)) :
    RefMem (w.setCell ⟨q, 4, none⟩ v) q (fun g => G g ∨ v.ownBlock = some g) { t with kept := l } vn vr vo v vs := by
  obtain ⟨a1, a2, a3, a4, a5⟩ := h.setQ 4 v
  refine ⟨?_, a1, own_set_q hv (fun g hg => h.ne_q hv (by decide) hg), a3, h.lr, a4, h.lo, a5, .inl h.gq, fun g hg => .inl (h.gn g hg), fun g hg => .inr hg, fun g hg => .inl (h.gr g hg), fun g hg => .inl (h.go g hg), fun i hi g hg => .inl (h.gl i hi g hg), fun g hg => ?_⟩
  · simp [World.setCell, Array.getElem?_modify, h.blk]
  · have : g < w.heap.size := hg.elim (h.lt g) (fun e => (hv.lt g e).2)
    simpa [World.setCell] using this
theorem RefMem.newestSet {w : World} {q : Nat} {G : Nat → Prop} {t : RSh} {vn vr vo vk : Value} {vs : List Value} (h : RefMem w q G t vn vr vo vk vs) {v : Value} {l : List Ent} (hv : w.ownsRow 0 68 3 v l.length (entsC l)) :
    RefMem (w.setCell ⟨q, 1, none⟩ v) q (fun g => G g ∨ v.ownBlock = some g) { t with newest := l } v vr vo vk vs := by
  obtain ⟨a1, a2, a3, a4, a5⟩ := h.setQ 1 v
  refine ⟨?_, own_set_q hv (fun g hg => h.ne_q hv (by decide) hg), a2, a3, h.lr, a4, h.lo, a5, .inl h.gq, fun g hg => .inr hg, fun g hg => .inl (h.gk g hg), fun g hg => .inl (h.gr g hg), fun g hg => .inl (h.go g hg), fun i hi g hg => .inl (h.gl i hi g hg), fun g hg => ?_⟩
  · simp [World.setCell, Array.getElem?_modify, h.blk]
  · have : g < w.heap.size := hg.elim (h.lt g) (fun e => (hv.lt g e).2)
    simpa [World.setCell] using this
theorem RefMem.readerSet {w : World} {q : Nat} {G : Nat → Prop} {t : RSh} {vn vo vk : Value} {vs : List Value} {gr cr i : Nat} (h : RefMem w q G t vn (.slice (some ⟨gr, 0, none⟩) vs.length cr) vo vk vs) {v : Value} {l : List Ent} (hi : i < vs.length) (hv : w.ownsRow 0 68 3 v l.length (entsC l)) :
    RefMem (w.setCell ⟨gr, i, none⟩ v) q (fun g => G g ∨ v.ownBlock = some g) { t with readers := t.readers.set i l } vn (.slice (some ⟨gr, 0, none⟩) vs.length cr) vo vk (vs.set i v) := by
  have k : ∀ {e : TypeId} {size n : Nat} {u : Value} {X : List Value}, w.ownsRow 0 e size u n X → e ≠ 54 → (w.setCell ⟨gr, i, none⟩ v).ownsRow 0 e size u n X := fun {e size n u X} h1 hne =>
    own_same h1 (fun g' hg' => Below.heap_setCell _ _ _ _ (fun e => own_ne h1 h.er hne g' hg' (by rw [e]; rfl)))
  refine ⟨(Below.heap_setCell _ _ _ _ (fun e => h.ne_q h.er (by decide) (g := gr) rfl e.symm)).trans h.blk, k h.en (by decide), k h.ek (by decide), by rw [List.length_set]; exact (h.er.stored i v).1, by rw [List.length_set, List.length_set]; exact h.lr, fun j hj hj' => ?_, by rw [List.length_set]; exact h.lo, k h.eo (by decide), .inl h.gq, fun g hg => .inl (h.gn g hg), fun g hg => .inl (h.gk g hg), fun g hg => .inl (h.gr g hg), fun g hg => .inl (h.go g hg), fun j hj g hg => ?_, fun g hg => ?_⟩
  · by_cases e : i = j
    · subst e
      simp only [List.getElem_set_self]
      exact k hv (by decide)
    · simp only [List.getElem_set_ne e]
      exact k (h.el j (by simpa using hj) (by simpa using hj')) (by decide)
  · by_cases e : i = j
    · subst e
      simp only [List.getElem_set_self] at hg
      exact .inr hg
    · simp only [List.getElem_set_ne e] at hg
      exact .inl (h.gl j (by simpa using hj) g hg)
  · have : g < w.heap.size := hg.elim (h.lt g) (fun e => (hv.lt g e).2)
    simpa [World.setCell] using this
/-- append of one struct that lies in a block of its own, in a region that draws its order -/
theorem step_appG {P : Program} {ops : Array Oper} {o : Oper} {a : Act} {K : Act → World → Prop} {Q : Exit → Act → World → Prop} {E : Prop} (hgd : o.guard = none) (s x : Operand) (t : TypeId)
    (ho : o.op = .call { callee := .builtin .append, args := #[s, x], argTypes := #[t, t] }) {e : TypeId} {z : Value} {size bytes : Nat}
    (ht : P.underlying t = some (.slice e)) (hinfo : (P.info? e).map (fun i => (i.zero, i.size, i.bytes)) = some (some z, size, bytes)) (hzs : z.cells.size = size) (hsz : 0 < size)
    (v : Value) (n : Nat) (xs : List Value) (w : World) (cs : Array Value) (hcs : cs.size = 1 * size) (h1 : ∀ u ∈ cs.toList, u.oneCell' = true)
    (hs : a.eval s = v) {g : Nat} (hx : a.eval x = .slice (some ⟨g, 0, none⟩) 1 1) (hg : w.heap[g]? = some (.cells cs e (0, 0))) (hown : w.ownsRow 0 e size v n xs)
    (hbytes : (n + 1) * bytes ≤ 140737488355328) (hmax : n + 1 ≤ 9223372036854775807)
    (h : ∀ g' c w', w'.ownsRow 0 e size (.slice (some ⟨g', 0, none⟩) (n + 1) c) (n + 1) (xs ++ cs.toList) → w.grownBy w' v.ownBlock → (v.ownBlock = some g' ∨ w.heap.size ≤ g') → K (a.put o.dst (.slice (some ⟨g', 0, none⟩) (n + 1) c)) w') :
    if Region.wanted o (yielded ops a.tmps) = true then Oper.wp P o a w K Q else E := by
  obtain ⟨i, hi, hz, hsi, hby⟩ := info_parts hinfo
  refine step_append_lies w hgd s x t ho 0 e i z size bytes ht hi hz hsi hby hzs hsz v n xs hs hown ⟨g, 0, none⟩ 1 1 cs.toList hx (by simpa using hcs)
    (World.news_of_block hg) h1 (by omega) (by simpa [maxLen] using hmax) hbytes (Nat.zero_le _) _ rfl ?_
  intro g' cap w' hown' hg' hgo _
  exact h g' cap w' hown' hg' (hgo.imp id (fun e => by rw [e]; exact Nat.le_refl _))
end Go.Proofs.Ytfhgidbmeifflaa
