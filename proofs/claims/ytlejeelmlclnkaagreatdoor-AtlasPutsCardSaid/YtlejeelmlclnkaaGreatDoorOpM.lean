/- HOW ARGUMENTS ARE OPENED: maps of objects, objects, differences. -/
import Derived.Test.YtlejeelmlclnkaaGreatDoorRows
import Derived.Test.YtlejeelmlclnkaaGreatDoorCC
import Derived.Deep.Slices
import Derived.Deep.Fields
import Derived.ChangeSame
import Derived.ChangeArms
import Derived.SizedLaws
import Derived.SliceStrings
import Derived.OpenShut
set_option linter.unusedSimpArgs false
set_option linter.unusedVariables false
namespace Go.Proofs.YtlejeelmlclnkaaGreatDoor
open Go.RowKit Go.ChangeShapes Go.WideShapes Go.Deep

section
variable {H : Type} {enc : TypeId × Value → H} {w : World} {base : Nat} {held : Bool}
theorem flat_back {α : Type} (f : α → List Value) (m : Nat) (hm : 0 < m) (hf : ∀ a, (f a).length = m) {l : List α} {q : Nat} {u : Value} (h : (l.flatMap f)[q]? = some u) : ∃ hk : q / m < l.length, (f l[q / m])[q % m]? = some u := by
  have hq := (List.getElem?_eq_some_iff.1 h).1
  rw [flat_len f m hf] at hq
  have hk : q / m < l.length := (Nat.div_lt_iff_lt_mul hm).2 hq
  have hr : q % m < (f l[q / m]).length := by rw [hf]; exact Nat.mod_lt _ hm
  have := flat_get f m hf hk (List.getElem?_eq_getElem hr)
  rw [Nat.mul_comm, Nat.div_add_mod, h] at this
  exact ⟨hk, by rw [List.getElem?_eq_getElem hr, this]⟩
theorem slice_open {α : Type} (f : α → List Value) (G : α → Prop) (k : Nat) (hk : 0 < k) (hf : ∀ a, (f a).length = k) (a0 : α) {t e : TypeId} (ht : Tryz.prog.underlying t = some (.slice e)) (hC : Tryz.prog.cellsOf e = k)
    (hel : ∀ (fuel : Nat) (cs : List Value) (x : DataW H × List MemPlace), DataW.trod enc Tryz.prog w base (fun _ => true) held fuel e cs = some x → ∃ a, cs = f a ∧ G a) {fuel : Nat} {v : Value} {x : DataW H × List MemPlace}
    (h : DataW.trod enc Tryz.prog w base (fun _ => true) held fuel t [v] = some x) : ∃ (A : Option Addr) (c : Nat) (l : List α), v = .slice A l.length c ∧ l.length ≤ c ∧ c ≤ maxLen ∧ Rd w A (l.flatMap f) ∧ ∀ a ∈ l, G a := by
  rcases open_slice ht h with ⟨hcs, rfl⟩ | ⟨a, len, cap, m, n, D, Pl, hcs, hb, hl, hm, hmm, hx, hi⟩
  · cases hcs
    exact ⟨none, 0, [], rfl, Nat.le_refl _, by simp [maxLen], Rd.nil_ _ _, fun p hp => by cases hp⟩
  · cases hcs
    simp only [if_true] at hmm
    subst hmm
    have hh : ∀ i, i < m → ∃ p : α, G p ∧ ∀ j u, (f p)[j]? = some u → w.cell? (a.add (i * k + j)) = some u := by
      intro i him
      obtain ⟨cs', hc, ht'⟩ := hi i him
      obtain ⟨p, rfl, hG⟩ := hel _ _ _ ht'
      rw [hC] at hc
      obtain ⟨_, _, hat⟩ := World.cells?_some hc
      refine ⟨p, hG, fun j u hu => ?_⟩
      have hj : j < k := by rw [← hf p]; exact (List.getElem?_eq_some_iff.1 hu).1
      have := hat j hj
      rw [add_add, hu] at this
      exact this
    obtain ⟨g, hg⟩ : ∃ g : Nat → α, ∀ i, i < m → G (g i) ∧ ∀ j u, (f (g i))[j]? = some u → w.cell? (a.add (i * k + j)) = some u :=
      ⟨fun i => if h : i < m then (hh i h).choose else a0, fun i him => by simp only [dif_pos him]; exact (hh i him).choose_spec⟩
    refine ⟨some a, m, (List.range len).map g, by simp, by simpa using hl, hm, fun h0 => ?_, ?_⟩
    · rw [flat_len f k hf] at h0
      have hl0 : 0 < len := by rcases Nat.eq_zero_or_pos len with e | e
                               · subst e; simp at h0
                               · exact e
      have hc0 : ∃ u, (f (g 0))[0]? = some u := ⟨(f (g 0))[0]'(by rw [hf]; exact hk), List.getElem?_eq_getElem _⟩
      obtain ⟨u0, hu0⟩ := hc0
      have hz := (hg 0 (by omega)).2 0 u0 hu0
      obtain ⟨b, off, spot⟩ := a
      have hs : spot = none := by
        have := World.cell?_spot hz
        simpa [Addr.add] using this
      subst hs
      refine ⟨b, off, rfl, ?_, ?_⟩
      · rw [Addr.add_lit] at hz
        exact World.block_lt_of_cell? w _ hz
      · intro q u hu
        obtain ⟨hk2, h2⟩ := flat_back f k hk hf hu
        have hi2 : q / k < len := by simpa using hk2
        simp only [List.getElem_map, List.getElem_range] at h2
        have := (hg (q / k) (by omega)).2 _ _ h2
        rw [Nat.mul_comm, Nat.div_add_mod, Addr.add_lit] at this
        exact this
    · intro p hp
      obtain ⟨i, hi', rfl⟩ := List.mem_map.1 hp
      exact (hg i (by have := List.mem_range.1 hi'; omega)).1
theorem str_open {fuel : Nat} {cs : List Value} {x : DataW H × List MemPlace} (h : DataW.trod enc Tryz.prog w base (fun _ => true) held fuel 9 cs = some x) : ∃ s : Tx, cs = [.string (mkB s)] ∧ s.length ≤ 9223372036854775807 := by
  obtain ⟨s, rfl, -, hs⟩ := DataW.trod_string Tryz.underlying9 h
  exact ⟨s.data.toList, by rw [mkB_of], by simpa [maxLen] using hs⟩
theorem strs_flat (l : List Tx) : (l.flatMap fun s => [Value.string (mkB s)]) = strsC l := by
  induction l with
  | nil => rfl
  | cons x l ih => rw [List.flatMap_cons, ih]; rfl
theorem strs_open {fuel : Nat} {v : Value} {x : DataW H × List MemPlace} (h : DataW.trod enc Tryz.prog w base (fun _ => true) held fuel 40 [v] = some x) : ∃ l : List Tx, SlIs w v l.length (strsC l) := by
  obtain ⟨A, c, l, rfl, -, -, h1, -⟩ := slice_open (fun s : Tx => [.string (mkB s)]) (fun _ => True) 1 (by decide) (fun _ => rfl) [] Tryz.underlying40 (by kernel_rfl) (fun _ _ _ h => by obtain ⟨s, e, _⟩ := str_open h; exact ⟨s, e, trivial⟩) h
  rw [strs_flat] at h1
  exact ⟨l, A, c, rfl, h1⟩
def TagSz (t : Tx × Tx) : Prop := t.1.length ≤ 9223372036854775807 ∧ t.2.length ≤ 9223372036854775807
set_option maxRecDepth 100000 in
theorem tag_open {fuel : Nat} {cs : List Value} {x : DataW H × List MemPlace} (h : DataW.trod enc Tryz.prog w base (fun _ => true) held fuel 94 cs = some x) : ∃ t : Tx × Tx, cs = tagC t ∧ TagSz t := by
  obtain ⟨y0, y1, n, _, hl, h0, h1⟩ := trod_struct2 Tryz.underlying94 h
  have hc : Tryz.prog.cellsOf 94 = 2 := by kernel_rfl
  have hi : Tryz.prog.cellsOf 9 = 1 := by kernel_rfl
  rw [hc] at hl
  match cs, hl with
  | [c0, c1], _ =>
    simp only [hi, List.drop_zero, List.take_succ_cons, List.take_zero, List.drop_succ_cons] at h0 h1
    obtain ⟨a, ha, wa⟩ := str_open h0
    obtain ⟨b, hb, wb⟩ := str_open h1
    cases ha; cases hb
    exact ⟨(a, b), rfl, wa, wb⟩
theorem tags_open {fuel : Nat} {v : Value} {x : DataW H × List MemPlace} (h : DataW.trod enc Tryz.prog w base (fun _ => true) held fuel 41 [v] = some x) : ∃ l : List (Tx × Tx), SlIs w v l.length (tagsC l) ∧ ∀ t ∈ l, TagSz t := by
  obtain ⟨A, c, l, rfl, -, -, h1, h2⟩ := slice_open tagC TagSz 2 (by decide) (fun _ => rfl) ([], []) Tryz.underlying41 (by kernel_rfl) (fun _ _ _ h => tag_open h) h
  exact ⟨l, ⟨A, c, rfl, h1⟩, h2⟩
/-- what is known of an object that came in -/
def ObIn (w : World) (r : RO) : Prop := ObIs w r ∧ (∀ t ∈ r.c.tags, TagSz t) ∧ r.c.id.length ≤ 9223372036854775807
set_option maxRecDepth 100000 in
theorem point_open {fuel : Nat} {cs : List Value} {x : DataW H × List MemPlace} (h : DataW.trod enc Tryz.prog w base (fun _ => true) held fuel 39 cs = some x) : ∃ a b : Int, cs = [.int .i64 a, .int .i64 b] := by
  obtain ⟨y0, y1, n, _, hl, h0, h1⟩ := trod_struct2 Tryz.underlying39 h
  have hc : Tryz.prog.cellsOf 39 = 2 := by kernel_rfl
  have hi : Tryz.prog.cellsOf 3 = 1 := by kernel_rfl
  rw [hc] at hl
  match cs, hl with
  | [c0, c1], _ =>
    simp only [hi, List.drop_zero, List.take_succ_cons, List.take_zero, List.drop_succ_cons] at h0 h1
    obtain ⟨a, ha, _, wa⟩ := DataW.trod_int Tryz.underlying3 h0
    obtain ⟨b, hb, _, wb⟩ := DataW.trod_int Tryz.underlying3 h1
    cases ha; cases hb
    exact ⟨a, b, rfl⟩
set_option maxRecDepth 100000 in
theorem ob_open {fuel : Nat} {cs : List Value} {x : DataW H × List MemPlace} (h : DataW.trod enc Tryz.prog w base (fun _ => true) held fuel 43 cs = some x) : ∃ r : RO, cs = roC r ∧ ObIn w r := by
  obtain ⟨ys, n, _, _, hl, hyl, hf⟩ := DataW.trod_struct Tryz.underlying43 h
  have hc : Tryz.prog.cellsOf 43 = 6 := by kernel_rfl
  have hs : Tryz.prog.cellsOf 9 = 1 := by kernel_rfl
  have hi : Tryz.prog.cellsOf 3 = 1 := by kernel_rfl
  have hp : Tryz.prog.cellsOf 39 = 2 := by kernel_rfl
  have hr : Tryz.prog.cellsOf 40 = 1 := by kernel_rfl
  have hg : Tryz.prog.cellsOf 41 = 1 := by kernel_rfl
  rw [hc] at hl
  match cs, hl, ys, hyl with
  | [c0, c1, c2, c3, c4, c5], _, [y0, y1, y2, y3, y4], _ =>
    have h0 := hf 0 _ rfl
    have h1 := hf 1 _ rfl
    have h2 := hf 2 _ rfl
    have h3 := hf 3 _ rfl
    have h4 := hf 4 _ rfl
    simp only [hs, hi, hp, hr, hg, List.drop_zero, List.take_succ_cons, List.take_zero, List.drop_succ_cons, List.getElem?_cons_zero, List.getElem?_cons_succ] at h0 h1 h2 h3 h4
    obtain ⟨id, e0, z0⟩ := str_open h0
    obtain ⟨kind, e1, _, _⟩ := DataW.trod_int Tryz.underlying3 h1
    obtain ⟨a, b, e2⟩ := point_open h2
    obtain ⟨refs, r3⟩ := strs_open h3
    obtain ⟨tags, r4, z4⟩ := tags_open h4
    cases e0; cases e1; cases e2
    exact ⟨⟨⟨id, kind, a, b, refs, tags⟩, c4, c5⟩, rfl, ⟨r3, r4⟩, z4, z0⟩
theorem obs_open {fuel : Nat} {v : Value} {x : DataW H × List MemPlace} (h : DataW.trod enc Tryz.prog w base (fun _ => true) held fuel 22 [v] = some x) : ∃ (A : Option Addr) (c : Nat) (l : List RO), v = .slice A l.length c ∧ l.length ≤ c ∧ c ≤ 9223372036854775807 ∧ Mw w A l := by
  obtain ⟨A, c, l, rfl, h0, h3, h1, h2⟩ := slice_open roC (ObIn w) 6 (by decide) (fun _ => rfl) zeroRO Tryz.underlying22 (by kernel_rfl) (fun _ _ _ h => ob_open h) h
  exact ⟨A, c, l, rfl, h0, by simpa [maxLen] using h3, ⟨h1, fun r hr => (h2 r hr).1, fun r hr => (h2 r hr).2.1⟩⟩
set_option maxRecDepth 100000 in
theorem mapc_open {fuel : Nat} {cs : List Value} {x : DataW H × List MemPlace} (h : DataW.trod enc Tryz.prog w base (fun _ => true) held fuel 24 cs = some x) : ∃ (A : Option Addr) (c : Nat) (l : List RO), cs = [.slice A l.length c] ∧ l.length ≤ c ∧ c ≤ 9223372036854775807 ∧ Mw w A l := by
  obtain ⟨y0, n, _, hl, h0⟩ := trod_struct1 Tryz.underlying24 h
  have hc : Tryz.prog.cellsOf 24 = 1 := by kernel_rfl
  have hr : Tryz.prog.cellsOf 22 = 1 := by kernel_rfl
  rw [hc] at hl
  match cs, hl with
  | [c0], _ =>
    simp only [hr, List.drop_zero, List.take_succ_cons, List.take_zero] at h0
    obtain ⟨A, c, l, e, h1⟩ := obs_open h0
    exact ⟨A, c, l, by rw [e], h1⟩
set_option maxRecDepth 100000 in
theorem map_open {r : Reach} {b0 : Nat} {v : Value} {d : DataW H} {p : List MemPlace} (hv : Value.okWide Tryz.prog w r b0 24 v) (h : DataW.Trod enc Tryz.prog w base (fun _ => true) held 24 v d p) :
    ∃ (A : Option Addr) (c : Nat) (l : List RO), v = .agg #[.slice A l.length c] ∧ l.length ≤ c ∧ c ≤ 9223372036854775807 ∧ Mw w A l := by
  obtain ⟨cs, rfl, hcs⟩ := okWide_struct Tryz.underlying24 hv
  obtain ⟨fuel, hf⟩ := h
  obtain ⟨A, c, l, e, h1⟩ := mapc_open hf
  have e2 : cs = #[.slice A l.length c] := by simpa [Value.cells] using congrArg List.toArray e
  exact ⟨A, c, l, by rw [e2], h1⟩
set_option maxRecDepth 100000 in
theorem obj_open {r : Reach} {b0 : Nat} {v : Value} {d : DataW H} {p : List MemPlace} (hv : Value.okWide Tryz.prog w r b0 43 v) (h : DataW.Trod enc Tryz.prog w base (fun _ => true) held 43 v d p) :
    ∃ o : RO, v = roA o ∧ ObIn w o := by
  obtain ⟨cs, rfl, hcs⟩ := okWide_struct Tryz.underlying43 hv
  obtain ⟨fuel, hf⟩ := h
  obtain ⟨o, e, h1⟩ := ob_open hf
  have e2 : cs = (roC o).toArray := by simpa [Value.cells] using congrArg List.toArray e
  exact ⟨o, by rw [e2]; rfl, h1⟩
/-- what is known of a difference that came in -/
def DlIn (w : World) (d : DV) : Prop := ObIn w d.o ∧ ObIn w d.n ∧ d.id.length ≤ 9223372036854775807
set_option maxRecDepth 100000 in
theorem dl_open {fuel : Nat} {cs : List Value} {x : DataW H × List MemPlace} (h : DataW.trod enc Tryz.prog w base (fun _ => true) held fuel 45 cs = some x) : ∃ d : DV, cs = dvC d ∧ DlIn w d := by
  obtain ⟨ys, n, _, _, hl, hyl, hf⟩ := DataW.trod_struct Tryz.underlying45 h
  have hc : Tryz.prog.cellsOf 45 = 15 := by kernel_rfl
  have hs : Tryz.prog.cellsOf 9 = 1 := by kernel_rfl
  have hb : Tryz.prog.cellsOf 4 = 1 := by kernel_rfl
  have ho : Tryz.prog.cellsOf 43 = 6 := by kernel_rfl
  rw [hc] at hl
  match cs, hl, ys, hyl with
  | [c0, c1, c2, c3, c4, c5, c6, c7, c8, c9, c10, c11, c12, c13, c14], _, [y0, y1, y2, y3, y4], _ =>
    have h0 := hf 0 _ rfl
    have h1 := hf 1 _ rfl
    have h2 := hf 2 _ rfl
    have h3 := hf 3 _ rfl
    have h4 := hf 4 _ rfl
    simp only [hs, hb, ho, List.drop_zero, List.take_succ_cons, List.take_zero, List.drop_succ_cons, List.getElem?_cons_zero, List.getElem?_cons_succ] at h0 h1 h2 h3 h4
    obtain ⟨id, e0, z0⟩ := str_open h0
    obtain ⟨was, e1, _⟩ := DataW.trod_bool Tryz.underlying4 h1
    obtain ⟨is, e2, _⟩ := DataW.trod_bool Tryz.underlying4 h2
    obtain ⟨o, e3, z3⟩ := ob_open h3
    obtain ⟨n, e4, z4⟩ := ob_open h4
    cases e0; cases e1; cases e2
    refine ⟨⟨id, was, is, o, n⟩, ?_, z3, z4, z0⟩
    show _ :: _ :: _ :: [c3, c4, c5, c6, c7, c8, c9, c10, c11, c12, c13, c14] = _ :: _ :: _ :: (roC o ++ roC n)
    rw [← e3, ← e4]; rfl
theorem dls_open {fuel : Nat} {v : Value} {x : DataW H × List MemPlace} (h : DataW.trod enc Tryz.prog w base (fun _ => true) held fuel 28 [v] = some x) : ∃ (A : Option Addr) (c : Nat) (l : List DV), v = .slice A l.length c ∧ l.length ≤ c ∧ c ≤ 9223372036854775807 ∧ Rd w A (dvsC l) ∧ ∀ d ∈ l, DlIn w d := by
  obtain ⟨A, c, l, rfl, h0, h3, h1, h2⟩ := slice_open dvC (DlIn w) 15 (by decide) (fun _ => rfl) ⟨[], false, false, zeroRO, zeroRO⟩ Tryz.underlying28 (by kernel_rfl) (fun _ _ _ h => dl_open h) h
  exact ⟨A, c, l, rfl, h0, by simpa [maxLen] using h3, h1, h2⟩
end
end Go.Proofs.YtlejeelmlclnkaaGreatDoor
