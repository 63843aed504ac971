/- HOW ARGUMENTS ARE OPENED: operations, slices of operations. -/
import Derived.Test.YtfhgidbmeifflaaRows
import Derived.Test.YtfhgidbmeifflaaNX
import Derived.Deep.Slices
import Derived.Deep.Fields
import Derived.ChangeSame
import Derived.ChangeArms
import Derived.SizedLaws
set_option linter.unusedSimpArgs false
set_option linter.unusedVariables false
namespace Go.Proofs.Ytfhgidbmeifflaa
open Go.RowKit Go.ChangeShapes Go.WideShapes Go.Deep

theorem wf8 {n : Int} (h : (Lit.int .u8 n).wf = true) : ∃ m : Nat, n = (m : Int) ∧ m ≤ 255 := by
  simp only [Lit.wf, Bool.and_eq_true, decide_eq_true_eq] at h
  have h1 : (0 : Int) ≤ n := h.1
  have h2 : n ≤ 255 := h.2
  exact ⟨n.toNat, by omega, by omega⟩
section
variable {H : Type} {enc : TypeId × Value → H} {w : World} {base : Nat} {spare : Nat → Bool} {held : Bool}
theorem op_open {fuel : Nat} {cs : List Value} {x : DataW H × List MemPlace} (h : DataW.trod enc Try.prog w base spare held fuel 33 cs = some x) : ∃ o : OpV, cs = opCells o ∧ OpIn o := by
  obtain ⟨fs, hs⟩ : ∃ fs, Try.prog.underlying 33 = some (.struct fs) := ⟨_, Try.underlying33⟩
  obtain ⟨xs, n, _, hx, hl, hlen, hg⟩ := DataW.trod_struct Try.underlying33 h
  have hc : Try.prog.cellsOf 33 = 6 := by kernel_rfl
  have hst : Try.prog.cellsOf 9 = 1 := by kernel_rfl
  have hu8 : Try.prog.cellsOf 5 = 1 := by kernel_rfl
  rw [hc] at hl
  match cs, hl with
  | [c0, c1, c2, c3, c4, c5], _ =>
    match xs, hlen with
    | [y0, y1, y2, y3, y4, y5], _ =>
      have g0 : DataW.trod enc Try.prog w base spare held n 5 (([c0, c1, c2, c3, c4, c5].drop 0).take (Try.prog.cellsOf 5)) = some y0 := hg 0 _ rfl
      rw [hu8] at g0
      have g1 : DataW.trod enc Try.prog w base spare held n 9 (([c0, c1, c2, c3, c4, c5].drop 1).take (Try.prog.cellsOf 9)) = some y1 := hg 1 _ rfl
      rw [hst] at g1
      have g2 : DataW.trod enc Try.prog w base spare held n 9 (([c0, c1, c2, c3, c4, c5].drop 2).take (Try.prog.cellsOf 9)) = some y2 := hg 2 _ rfl
      rw [hst] at g2
      have g3 : DataW.trod enc Try.prog w base spare held n 9 (([c0, c1, c2, c3, c4, c5].drop 3).take (Try.prog.cellsOf 9)) = some y3 := hg 3 _ rfl
      rw [hst] at g3
      have g4 : DataW.trod enc Try.prog w base spare held n 9 (([c0, c1, c2, c3, c4, c5].drop 4).take (Try.prog.cellsOf 9)) = some y4 := hg 4 _ rfl
      rw [hst] at g4
      have g5 : DataW.trod enc Try.prog w base spare held n 5 (([c0, c1, c2, c3, c4, c5].drop 5).take (Try.prog.cellsOf 5)) = some y5 := hg 5 _ rfl
      rw [hu8] at g5
      obtain ⟨a, ha, _, wa⟩ := DataW.trod_int Try.underlying5 g0
      obtain ⟨s1, h1, _, _⟩ := DataW.trod_string Try.underlying9 g1
      obtain ⟨s2, h2, _, _⟩ := DataW.trod_string Try.underlying9 g2
      obtain ⟨s3, h3, _, _⟩ := DataW.trod_string Try.underlying9 g3
      obtain ⟨s4, h4, _, _⟩ := DataW.trod_string Try.underlying9 g4
      obtain ⟨b, hb, _, wb⟩ := DataW.trod_int Try.underlying5 g5
      obtain ⟨a, rfl, ha2⟩ := wf8 wa
      obtain ⟨b, rfl, hb2⟩ := wf8 wb
      cases ha; cases h1; cases h2; cases h3; cases h4; cases hb
      exact ⟨⟨a, s1.data.toList, s2.data.toList, s3.data.toList, s4.data.toList, b⟩, by simp [opCells, mkB_of], ha2, hb2⟩
theorem ops_open {fuel : Nat} {v : Value} {x : DataW H × List MemPlace} (h : DataW.trod enc Try.prog w base (fun _ => true) held fuel 22 [v] = some x) :
    ∃ A n c l, v = .slice A n c ∧ n = l.length ∧ n ≤ 9223372036854775807 ∧ Rd w A (opsC l) ∧ ∀ o ∈ l, OpIn o := by
  have hp : Try.prog.cellsOf 33 = 6 := by kernel_rfl
  rcases open_slice Try.underlying22 h with ⟨hcs, rfl⟩ | ⟨a, len, cap, m, n, D, Pl, hcs, hb, hl, hm, hmm, hx, hi⟩
  · cases hcs
    exact ⟨none, 0, 0, [], rfl, rfl, by omega, Rd.nil_ _ _, (fun p hp => by cases hp)⟩
  · cases hcs
    simp only [if_true] at hmm
    subst hmm
    have hh : ∀ i, i < m → ∃ o : OpV, (∀ j u, (opCells o)[j]? = some u → w.cell? (a.add (i * 6 + j)) = some u) ∧ OpIn o := by
      intro i him
      obtain ⟨cs', hc, ht⟩ := hi i him
      obtain ⟨o, rfl, ho⟩ := op_open ht
      rw [hp] at hc
      obtain ⟨_, _, hat⟩ := World.cells?_some hc
      refine ⟨o, fun j u hu => ?_, ho⟩
      have := hat j (List.getElem?_eq_some_iff.1 hu).1
      rw [add_add] at this
      exact this.trans hu
    obtain ⟨f, hf⟩ : ∃ f : Nat → OpV, ∀ i, i < m → (∀ j u, (opCells (f i))[j]? = some u → w.cell? (a.add (i * 6 + j)) = some u) ∧ OpIn (f i) := by
      refine ⟨fun i => if h : i < m then (hh i h).choose else ⟨0, [], [], [], [], 0⟩, fun i him => ?_⟩
      simp only [dif_pos him]
      exact (hh i him).choose_spec
    have hmx : len ≤ 9223372036854775807 := by unfold maxLen at hm; omega
    refine ⟨some a, len, m, (List.range len).map f, rfl, by simp, hmx, fun h0 => ?_, ?_⟩
    · have hl0 : 0 < len := by rw [opsC_len] at h0; simp at h0; exact h0
      obtain ⟨b, off, spot⟩ := a
      have hz := (hf 0 (by omega)).1 0 _ rfl
      have hs : spot = none := by
        have := World.cell?_spot hz
        simpa [Addr.add] using this
      subst hs
      refine ⟨b, off, rfl, World.block_lt_of_cell? w _ hz, fun i u hu => ?_⟩
      have hil := (List.getElem?_eq_some_iff.1 hu).1
      rw [opsC_len] at hil
      simp only [List.length_map, List.length_range] at hil
      have hk : i / 6 < len := by omega
      have hk2 : i / 6 < ((List.range len).map f).length := by simpa using hk
      have e1 : i = i / 6 * 6 + i % 6 := by omega
      have hj : i % 6 < (opCells (f (i / 6))).length := by have : (opCells (f (i / 6))).length = 6 := rfl; omega
      have g1 := flat_get opCells 6 (fun _ => rfl) (l := (List.range len).map f) hk2 (i := i % 6) (u := (opCells (f (i / 6)))[i % 6]) (by simp)
      rw [← e1] at g1
      have hu2 : (((List.range len).map f).flatMap opCells)[i]? = some u := hu
      rw [hu2] at g1
      have g2 := (hf (i / 6) (by omega)).1 (i % 6) _ (List.getElem?_eq_getElem hj)
      rw [Addr.add_lit, ← e1] at g2
      rw [g2]
      exact g1.symm
    · intro p hp'
      obtain ⟨i, hi', rfl⟩ := List.mem_map.1 hp'
      exact (hf i (by have := List.mem_range.1 hi'; omega)).2
end
end Go.Proofs.Ytfhgidbmeifflaa
