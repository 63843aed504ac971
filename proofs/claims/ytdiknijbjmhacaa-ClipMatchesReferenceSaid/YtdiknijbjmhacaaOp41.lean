/- HOW ARGUMENTS ARE OPENED: points, boxes, slices of points. -/
import Derived.Test.YtdiknijbjmhacaaRows
import Derived.Test.YtdiknijbjmhacaaC2
import Derived.Deep.Slices
import Derived.Deep.Fields
import Derived.ChangeSame
import Derived.ChangeArms
import Derived.SizedLaws
set_option linter.unusedSimpArgs false
set_option linter.unusedVariables false
namespace Go.Proofs.Ytdiknijbjmhacaa
open Go.RowKit Go.ChangeShapes Go.WideShapes Go.Deep

theorem pt_cells (w : World) (g off : Nat) (m : List Cl.Pt) (h : ∀ i (h : i < m.length), w.cell? ⟨g, off + i * 2, none⟩ = some (.int .i64 m[i].1) ∧ w.cell? ⟨g, off + i * 2 + 1, none⟩ = some (.int .i64 m[i].2)) :
    ∀ i u, (m.flatMap ptCells)[i]? = some u → w.cell? ⟨g, off + i, none⟩ = some u := by
  intro i u hu
  have hi := (List.getElem?_eq_some_iff.1 hu).1
  rw [ptCells_len] at hi
  obtain ⟨h1, h2⟩ := ptCells_at m (i / 2) (by omega)
  obtain ⟨c1, c2⟩ := h (i / 2) (by omega)
  rcases Nat.mod_two_eq_zero_or_one i with e | e
  · have e' : i = i / 2 * 2 := by omega
    rw [← e'] at h1 c1
    rw [h1] at hu; cases hu; exact c1
  · have e' : i = i / 2 * 2 + 1 := by omega
    rw [Nat.add_assoc] at c2
    rw [← e'] at h2 c2
    rw [h2] at hu; cases hu; exact c2
theorem wf64 {n : Int} (h : (Lit.int .i64 n).wf = true) : -9223372036854775808 ≤ n ∧ n ≤ 9223372036854775807 := by
  simp only [Lit.wf, Bool.and_eq_true, decide_eq_true_eq] at h
  exact h
section
variable {H : Type} {enc : TypeId × Value → H} {w : World} {base : Nat} {spare : Nat → Bool} {held : Bool}
theorem pt_open {fuel : Nat} {cs : List Value} {x : DataW H × List MemPlace} (h : DataW.trod enc Try.prog w base spare held fuel 24 cs = some x) :
    ∃ a b : Int, cs = [.int .i64 a, .int .i64 b] ∧ (-9223372036854775808 ≤ a ∧ a ≤ 9223372036854775807) ∧ (-9223372036854775808 ≤ b ∧ b ≤ 9223372036854775807) := by
  obtain ⟨y0, y1, n, _, hl, h0, h1⟩ := trod_struct2 Try.underlying24 h
  have hc : Try.prog.cellsOf 24 = 2 := by kernel_rfl
  have hi : Try.prog.cellsOf 3 = 1 := by kernel_rfl
  rw [hc] at hl
  match cs, hl with
  | [c0, c1], _ =>
    simp only [hi, List.drop_zero, List.take_succ_cons, List.take_zero, List.drop_succ_cons] at h0 h1
    obtain ⟨a, ha, _, wa⟩ := DataW.trod_int Try.underlying3 h0
    obtain ⟨b, hb, _, wb⟩ := DataW.trod_int Try.underlying3 h1
    cases ha; cases hb
    exact ⟨a, b, rfl, wf64 wa, wf64 wb⟩
theorem box_open {fuel : Nat} {cs : List Value} {x : DataW H × List MemPlace} (h : DataW.trod enc Try.prog w base spare held fuel 26 cs = some x) :
    ∃ x0 y0 x1 y1 : Int, cs = [.int .i64 x0, .int .i64 y0, .int .i64 x1, .int .i64 y1] ∧ Wf [(x0, y0), (x1, y1)] := by
  obtain ⟨y0, y1, n, _, hl, h0, h1⟩ := trod_struct2 Try.underlying26 h
  have hc : Try.prog.cellsOf 26 = 4 := by kernel_rfl
  have hp : Try.prog.cellsOf 24 = 2 := by kernel_rfl
  rw [hc] at hl
  match cs, hl with
  | [c0, c1, c2, c3], _ =>
    simp only [hp, List.drop_zero, List.take_succ_cons, List.take_zero, List.drop_succ_cons] at h0 h1
    obtain ⟨a, b, e0, wa, wb⟩ := pt_open h0
    obtain ⟨c, d, e1, wc, wd⟩ := pt_open h1
    cases e0; cases e1
    refine ⟨a, b, c, d, rfl, ?_⟩
    intro p hp
    simp at hp
    rcases hp with rfl | rfl
    · exact ⟨wa, wb⟩
    · exact ⟨wc, wd⟩
/-- a slice of points: its list, its capacity -/
theorem pts_open {fuel : Nat} {v : Value} {x : DataW H × List MemPlace} (h : DataW.trod enc Try.prog w base (fun _ => true) held fuel 22 [v] = some x) :
    ∃ A n c l, v = .slice A n c ∧ n = l.length ∧ n ≤ c ∧ c ≤ maxLen ∧ Rp w A l ∧ Wf l ∧ (x.1 = .nil ∧ c = 0 ∨ ∃ els rest, x.1 = .slice els rest ∧ els.length + rest.length = c) := by
  have hp : Try.prog.cellsOf 24 = 2 := by kernel_rfl
  rcases open_slice Try.underlying22 h with ⟨hcs, rfl⟩ | ⟨a, len, cap, m, n, D, Pl, hcs, hb, hl, hm, hmm, hx, hi⟩
  · cases hcs
    exact ⟨none, 0, 0, [], rfl, rfl, Nat.le_refl _, by simp [maxLen], Rd.nil_ _ _, (fun p hp => by cases hp), .inl ⟨rfl, rfl⟩⟩
  · cases hcs
    simp only [if_true] at hmm
    subst hmm
    have hh : ∀ i, i < m → ∃ p : Cl.Pt, w.cell? (a.add (i * 2)) = some (.int .i64 p.1) ∧ w.cell? (a.add (i * 2 + 1)) = some (.int .i64 p.2) ∧ (-9223372036854775808 ≤ p.1 ∧ p.1 ≤ 9223372036854775807) ∧ (-9223372036854775808 ≤ p.2 ∧ p.2 ≤ 9223372036854775807) := by
      intro i him
      obtain ⟨cs', hc, ht⟩ := hi i him
      obtain ⟨x', y', rfl, wx, wy⟩ := pt_open ht
      rw [hp] at hc
      obtain ⟨_, _, hat⟩ := World.cells?_some hc
      have c0 := hat 0 (by omega)
      have c1 := hat 1 (by omega)
      rw [add_add] at c0 c1
      exact ⟨(x', y'), by simpa using c0, by simpa using c1, wx, wy⟩
    obtain ⟨f, hf⟩ : ∃ f : Nat → Cl.Pt, ∀ i, i < m → w.cell? (a.add (i * 2)) = some (.int .i64 (f i).1) ∧ w.cell? (a.add (i * 2 + 1)) = some (.int .i64 (f i).2) ∧ (-9223372036854775808 ≤ (f i).1 ∧ (f i).1 ≤ 9223372036854775807) ∧ (-9223372036854775808 ≤ (f i).2 ∧ (f i).2 ≤ 9223372036854775807) := by
      refine ⟨fun i => if h : i < m then (hh i h).choose else (0, 0), fun i him => ?_⟩
      simp only [dif_pos him]
      exact (hh i him).choose_spec
    refine ⟨some a, len, m, (List.range len).map f, rfl, by simp, hl, hm, fun h0 => ?_, ?_, .inr ⟨_, _, by rw [hx], by simp; omega⟩⟩
    · have hl0 : 0 < len := by rw [ptCells_len] at h0; simp at h0; exact h0
      obtain ⟨b, off, spot⟩ := a
      have hz := (hf 0 (by omega)).1
      have hs : spot = none := by
        have := World.cell?_spot hz
        simpa [Addr.add] using this
      subst hs
      refine ⟨b, off, rfl, World.block_lt_of_cell? w _ hz, ?_⟩
      have := pt_cells w b off ((List.range len).map f) (fun i hi' => by
        have hi2 : i < len := by simpa using hi'
        obtain ⟨h1, h2, _⟩ := hf i (by omega)
        rw [Addr.add_lit] at h1 h2
        simp only [List.getElem_map, List.getElem_range]
        exact ⟨h1, by rw [Nat.add_assoc]; exact h2⟩)
      exact this
    · intro p hp'
      obtain ⟨i, hi', rfl⟩ := List.mem_map.1 hp'
      obtain ⟨_, _, h3, h4⟩ := hf i (by have := List.mem_range.1 hi'; omega)
      exact ⟨h3, h4⟩
end
end Go.Proofs.Ytdiknijbjmhacaa
