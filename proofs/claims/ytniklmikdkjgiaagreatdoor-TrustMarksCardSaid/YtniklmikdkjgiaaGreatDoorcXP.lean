import Derived.Test.YtniklmikdkjgiaaGreatDoorRows
import Derived.Test.YtniklmikdkjgiaaGreatDoorcXJ
import Derived.Deep.Slices
import Derived.Deep.Fields
import Derived.ChangeSame
import Derived.ChangeArms
import Derived.SizedLaws
import Derived.SliceStrings
import Derived.OpenShut
import Derived.Lib.LaidTab
import Derived.Stop.LaidErr
set_option linter.all false
set_option maxHeartbeats 16000000
set_option maxRecDepth 100000
namespace Go.Proofs.YtniklmikdkjgiaaGreatDoor
open Go.RowKit Go.ChangeShapes Go.WideShapes Go.Deep
section
variable {H : Type} {enc : TypeId × Value → H} {w : World} {base : Nat} {held : Bool}
def Wt (t : TypeId) (x : DataW H) : Prop := ∀ n ∈ x.weights Tryz.prog t, n ≤ reachBytes
theorem wt_all {e : TypeId} : ∀ {l : List (DataW H)} {d : DataW H}, d ∈ l → ∀ n ∈ d.weights Tryz.prog e, n ∈ DataW.weightsAll Tryz.prog e l
  | a :: l, d, hd, n, hn => by
    rw [DataW.weightsAll, List.mem_append]
    rcases List.mem_cons.1 hd with rfl | h
    · exact .inl hn
    · exact .inr (wt_all h n hn)
theorem wt_field {t : TypeId} {fs : Array Field} (hu : Tryz.prog.underlying t = some (.struct fs)) {xs : List (DataW H × List MemPlace)} (h : Wt t (.agg (xs.map (·.1)))) {j : Nat} {f : Field} {y : DataW H × List MemPlace} (hf : fs[j]? = some f) (hy : xs[j]? = some y) : Wt f.type y.1 := fun n hn => h n (by
  simp only [DataW.weights, hu]
  exact DataW.weights_mem_each (j := j) (t := f.type) (d := y.1) (by simp [hf]) (by simp [hy]) n hn)
theorem flat_back {α : Type} (f : α → List Value) (m : Nat) (hm : 0 < m) (hf : ∀ a, (f a).length = m) {l : List α} {q : Nat} {u : Value} (h : (l.flatMap f)[q]? = some u) : ∃ hk : q / m < l.length, (f l[q / m])[q % m]? = some u := by
  have hq := (List.getElem?_eq_some_iff.1 h).1
  rw [flat_len f m hf] at hq
  have hk : q / m < l.length := (Nat.div_lt_iff_lt_mul hm).2 hq
  have hr : q % m < (f l[q / m]).length := by rw [hf]; exact Nat.mod_lt _ hm
  have := flat_get f m hf hk (List.getElem?_eq_getElem hr)
  rw [Nat.mul_comm, Nat.div_add_mod, h] at this
  exact ⟨hk, by rw [List.getElem?_eq_getElem hr, this]⟩
theorem slice_open {α : Type} (f : α → List Value) (G : α → Prop) (k : Nat) (hk : 0 < k) (hf : ∀ a, (f a).length = k) (a0 : α) {t e : TypeId} (ht : Tryz.prog.underlying t = some (.slice e)) (hC : Tryz.prog.cellsOf e = k)
    (hel : ∀ (fuel : Nat) (cs : List Value) (x : DataW H × List MemPlace), DataW.trod enc Tryz.prog w base (fun _ => true) held fuel e cs = some x → Wt e x.1 → ∃ a, cs = f a ∧ G a) {fuel : Nat} {v : Value} {x : DataW H × List MemPlace}
    (h : DataW.trod enc Tryz.prog w base (fun _ => true) held fuel t [v] = some x) (hw : Wt t x.1) : ∃ (A : Option Addr) (c : Nat) (l : List α), v = .slice A l.length c ∧ l.length ≤ c ∧ c ≤ maxLen ∧ Rd w A (l.flatMap f) ∧ ∀ a ∈ l, G a := by
  rcases open_slice ht h with ⟨hcs, rfl⟩ | ⟨a, len, cap, m, n, D, Pl, hcs, hb, hl, hm, hmm, hx, hi⟩
  · cases hcs
    exact ⟨none, 0, [], rfl, Nat.le_refl _, by simp [maxLen], Rd.nil_ _ _, fun p hp => by cases hp⟩
  · cases hcs
    simp only [if_true] at hmm
    subst hmm
    have hwD : ∀ i, i < len → Wt e (D i) := fun i hi n hn => hw n (by
      rw [hx]
      simp only [DataW.weights, ht]
      exact List.mem_cons_of_mem _ (List.mem_append_left _ (wt_all (List.mem_map.2 ⟨i, List.mem_range.2 hi, rfl⟩) n hn)))
    have hh : ∀ i, i < len → ∃ p : α, G p ∧ ∀ j u, (f p)[j]? = some u → w.cell? (a.add (i * k + j)) = some u := by
      intro i him
      obtain ⟨cs', hc, ht'⟩ := hi i (by omega)
      obtain ⟨p, rfl, hG⟩ := hel _ _ _ ht' (hwD i him)
      rw [hC] at hc
      obtain ⟨_, _, hat⟩ := World.cells?_some hc
      refine ⟨p, hG, fun j u hu => ?_⟩
      have hj : j < k := by rw [← hf p]; exact (List.getElem?_eq_some_iff.1 hu).1
      have := hat j hj
      rw [add_add, hu] at this
      exact this
    obtain ⟨g, hg⟩ : ∃ g : Nat → α, ∀ i, i < len → G (g i) ∧ ∀ j u, (f (g i))[j]? = some u → w.cell? (a.add (i * k + j)) = some u :=
      ⟨fun i => if h : i < len then (hh i h).choose else a0, fun i him => by simp only [dif_pos him]; exact (hh i him).choose_spec⟩
    refine ⟨some a, m, (List.range len).map g, by simp, by simpa using hl, hm, fun h0 => ?_, ?_⟩
    · rw [flat_len f k hf] at h0
      have hl0 : 0 < len := by rcases Nat.eq_zero_or_pos len with e | e
                               · subst e; simp at h0
                               · exact e
      have hc0 : ∃ u, (f (g 0))[0]? = some u := ⟨(f (g 0))[0]'(by rw [hf]; exact hk), List.getElem?_eq_getElem _⟩
      obtain ⟨u0, hu0⟩ := hc0
      have hz := (hg 0 (by omega)).2 0 u0 hu0
      obtain ⟨b, off, spot⟩ := a
      have hs : spot = none := by
        have := World.cell?_spot hz
        simpa [Addr.add] using this
      subst hs
      refine ⟨b, off, rfl, ?_, ?_⟩
      · rw [Addr.add_lit] at hz
        exact World.block_lt_of_cell? w _ hz
      · intro q u hu
        obtain ⟨hk2, h2⟩ := flat_back f k hk hf hu
        have hi2 : q / k < len := by simpa using hk2
        simp only [List.getElem_map, List.getElem_range] at h2
        have := (hg (q / k) (by omega)).2 _ _ h2
        rw [Nat.mul_comm, Nat.div_add_mod, Addr.add_lit] at this
        exact this
    · intro p hp
      obtain ⟨i, hi', rfl⟩ := List.mem_map.1 hp
      exact (hg i (by have := List.mem_range.1 hi'; omega)).1
theorem str_open {fuel : Nat} {cs : List Value} {x : DataW H × List MemPlace} (h : DataW.trod enc Tryz.prog w base (fun _ => true) held fuel 9 cs = some x) : ∃ s : Tx, cs = [.string (mkB s)] ∧ s.length ≤ 9223372036854775807 := by
  obtain ⟨s, rfl, -, hs⟩ := DataW.trod_string Tryz.underlying9 h
  exact ⟨s.data.toList, by rw [mkB_of], by simpa [maxLen] using hs⟩
theorem str_openW {fuel : Nat} {cs : List Value} {x : DataW H × List MemPlace} (h : DataW.trod enc Tryz.prog w base (fun _ => true) held fuel 9 cs = some x) (hw : Wt 9 x.1) : ∃ s : Tx, cs = [.string (mkB s)] ∧ s.length ≤ 140737488351232 := by
  obtain ⟨s, rfl, rfl, hs⟩ := DataW.trod_string Tryz.underlying9 h
  have := hw s.data.toList.length (by simp [DataW.weights])
  exact ⟨s.data.toList, by rw [mkB_of], by simpa [reachBytes] using this⟩
theorem strs_flat (l : List Tx) : (l.flatMap fun s => [Value.string (mkB s)]) = strsC l := by
  induction l with
  | nil => rfl
  | cons x l ih => rw [List.flatMap_cons, ih]; rfl
theorem strs_open {fuel : Nat} {v : Value} {x : DataW H × List MemPlace} (h : DataW.trod enc Tryz.prog w base (fun _ => true) held fuel 35 [v] = some x) (hw : Wt 35 x.1) : ∃ (A : Option Addr) (c : Nat) (l : List Tx), v = .slice A l.length c ∧ l.length ≤ c ∧ Rd w A (strsC l) := by
  obtain ⟨A, c, l, rfl, h0, -, h1, -⟩ := slice_open (fun s : Tx => [.string (mkB s)]) (fun _ => True) 1 (by decide) (fun _ => rfl) [] Tryz.underlying35 (by kernel_rfl) (fun _ _ _ h _ => by obtain ⟨s, e, _⟩ := str_open h; exact ⟨s, e, trivial⟩) h hw
  rw [strs_flat] at h1
  exact ⟨A, c, l, rfl, h0, h1⟩
theorem strs_openI {fuel : Nat} {v : Value} {x : DataW H × List MemPlace} (h : DataW.trod enc Tryz.prog w base (fun _ => true) held fuel 35 [v] = some x) (hw : Wt 35 x.1) : ∃ l : List Tx, SlIs w v l.length (strsC l) := by
  obtain ⟨A, c, l, rfl, -, h1⟩ := strs_open h hw
  exact ⟨l, A, c, rfl, h1⟩
def TagSz (t : Tx × Tx) : Prop := t.1.length ≤ 9223372036854775807 ∧ t.2.length ≤ 9223372036854775807
theorem tag_open {fuel : Nat} {cs : List Value} {x : DataW H × List MemPlace} (h : DataW.trod enc Tryz.prog w base (fun _ => true) held fuel 181 cs = some x) : ∃ t : Tx × Tx, cs = tagC t ∧ TagSz t := by
  obtain ⟨y0, y1, n, _, hl, h0, h1⟩ := trod_struct2 Tryz.underlying181 h
  have hc : Tryz.prog.cellsOf 181 = 2 := by kernel_rfl
  have hi : Tryz.prog.cellsOf 9 = 1 := by kernel_rfl
  rw [hc] at hl
  match cs, hl with
  | [c0, c1], _ =>
    simp only [hi, List.drop_zero, List.take_succ_cons, List.take_zero, List.drop_succ_cons] at h0 h1
    obtain ⟨a, ha, wa⟩ := str_open h0
    obtain ⟨b, hb, wb⟩ := str_open h1
    cases ha; cases hb
    exact ⟨(a, b), rfl, wa, wb⟩
theorem tags_open {fuel : Nat} {v : Value} {x : DataW H × List MemPlace} (h : DataW.trod enc Tryz.prog w base (fun _ => true) held fuel 89 [v] = some x) (hw : Wt 89 x.1) : ∃ l : List (Tx × Tx), SlIs w v l.length (tagsC l) ∧ ∀ t ∈ l, TagSz t := by
  obtain ⟨A, c, l, rfl, -, -, h1, h2⟩ := slice_open tagC TagSz 2 (by decide) (fun _ => rfl) ([], []) Tryz.underlying89 (by kernel_rfl) (fun _ _ _ h _ => tag_open h) h hw
  exact ⟨l, ⟨A, c, rfl, h1⟩, h2⟩
theorem point_open {fuel : Nat} {cs : List Value} {x : DataW H × List MemPlace} (h : DataW.trod enc Tryz.prog w base (fun _ => true) held fuel 88 cs = some x) : ∃ a b : Int, cs = [.int .i64 a, .int .i64 b] := by
  obtain ⟨y0, y1, n, _, hl, h0, h1⟩ := trod_struct2 Tryz.underlying88 h
  have hc : Tryz.prog.cellsOf 88 = 2 := by kernel_rfl
  have hi : Tryz.prog.cellsOf 3 = 1 := by kernel_rfl
  rw [hc] at hl
  match cs, hl with
  | [c0, c1], _ =>
    simp only [hi, List.drop_zero, List.take_succ_cons, List.take_zero, List.drop_succ_cons] at h0 h1
    obtain ⟨a, ha, _, wa⟩ := DataW.trod_int Tryz.underlying3 h0
    obtain ⟨b, hb, _, wb⟩ := DataW.trod_int Tryz.underlying3 h1
    cases ha; cases hb
    exact ⟨a, b, rfl⟩
theorem pts_open {fuel : Nat} {v : Value} {x : DataW H × List MemPlace} (h : DataW.trod enc Tryz.prog w base (fun _ => true) held fuel 52 [v] = some x) (hw : Wt 52 x.1) : ∃ l : List Pt, SlIs w v l.length (ptsL l) := by
  obtain ⟨A, c, l, rfl, -, -, h1, -⟩ := slice_open ptL (fun _ => True) 2 (by decide) (fun _ => rfl) (0, 0) Tryz.underlying52 (by kernel_rfl) (fun _ _ _ h _ => by obtain ⟨a, b, e⟩ := point_open h; exact ⟨(a, b), e, trivial⟩) h hw
  exact ⟨l, A, c, rfl, h1⟩
theorem ob_open {fuel : Nat} {cs : List Value} {x : DataW H × List MemPlace} (h : DataW.trod enc Tryz.prog w base (fun _ => true) held fuel 91 cs = some x) (hw : Wt 91 x.1) : ∃ r : RO, cs = roC r ∧ ObIs w r ∧ (∀ t ∈ r.c.tags, TagSz t) ∧ r.c.id.length ≤ 9223372036854775807 ∧ ∀ A n c, r.rv = .slice A n c → n ≤ c := by
  obtain ⟨ys, n, _, rfl, hl, hyl, hf⟩ := DataW.trod_struct Tryz.underlying91 h
  have hc : Tryz.prog.cellsOf 91 = 6 := by kernel_rfl
  have hs : Tryz.prog.cellsOf 9 = 1 := by kernel_rfl
  have hi : Tryz.prog.cellsOf 3 = 1 := by kernel_rfl
  have hp : Tryz.prog.cellsOf 88 = 2 := by kernel_rfl
  have hr : Tryz.prog.cellsOf 35 = 1 := by kernel_rfl
  have hg : Tryz.prog.cellsOf 89 = 1 := by kernel_rfl
  rw [hc] at hl
  match cs, hl, ys, hyl with
  | [c0, c1, c2, c3, c4, c5], _, [y0, y1, y2, y3, y4], _ =>
    have h0 := hf 0 _ rfl
    have h1 := hf 1 _ rfl
    have h2 := hf 2 _ rfl
    have h3 := hf 3 _ rfl
    have h4 := hf 4 _ rfl
    simp only [hs, hi, hp, hr, hg, List.drop_zero, List.take_succ_cons, List.take_zero, List.drop_succ_cons, List.getElem?_cons_zero, List.getElem?_cons_succ] at h0 h1 h2 h3 h4
    obtain ⟨id, e0, z0⟩ := str_open h0
    obtain ⟨kind, e1, _, _⟩ := DataW.trod_int Tryz.underlying3 h1
    obtain ⟨a, b, e2⟩ := point_open h2
    obtain ⟨A3, q3, refs, e3, l3, r3⟩ := strs_open h3 (wt_field Tryz.underlying91 hw (j := 3) rfl rfl)
    obtain ⟨tags, r4, z4⟩ := tags_open h4 (wt_field Tryz.underlying91 hw (j := 4) rfl rfl)
    cases e0; cases e1; cases e2
    exact ⟨⟨⟨id, kind, a, b, refs, tags⟩, c4, c5⟩, rfl, ⟨⟨A3, q3, e3, r3⟩, r4⟩, z4, z0, fun A n c e => by
      have e : c4 = .slice A n c := e
      rw [e3] at e; injection e with _ e1 e2; omega⟩
theorem ed_open {fuel : Nat} {cs : List Value} {x : DataW H × List MemPlace} (h : DataW.trod enc Tryz.prog w base (fun _ => true) held fuel 93 cs = some x) (hw : Wt 93 x.1) : ∃ e : EV, cs = evL e ∧ EvW w e := by
  obtain ⟨ys, n, _, rfl, hl, hyl, hf⟩ := DataW.trod_struct Tryz.underlying93 h
  have hc : Tryz.prog.cellsOf 93 = 15 := by kernel_rfl
  have hs : Tryz.prog.cellsOf 9 = 1 := by kernel_rfl
  have hi : Tryz.prog.cellsOf 3 = 1 := by kernel_rfl
  have hp : Tryz.prog.cellsOf 88 = 2 := by kernel_rfl
  have hr : Tryz.prog.cellsOf 35 = 1 := by kernel_rfl
  have ho : Tryz.prog.cellsOf 91 = 6 := by kernel_rfl
  rw [hc] at hl
  match cs, hl, ys, hyl with
  | [c0, c1, c2, c3, c4, c5, c6, c7, c8, c9, c10, c11, c12, c13, c14], _, [y0, y1, y2, y3, y4, y5, y6, y7, y8], _ =>
    have h0 := hf 0 _ rfl
    have h1 := hf 1 _ rfl
    have h2 := hf 2 _ rfl
    have h3 := hf 3 _ rfl
    have h4 := hf 4 _ rfl
    have h5 := hf 5 _ rfl
    have h6 := hf 6 _ rfl
    have h7 := hf 7 _ rfl
    have h8 := hf 8 _ rfl
    simp only [hs, hi, hp, hr, ho, List.drop_zero, List.take_succ_cons, List.take_zero, List.drop_succ_cons, List.getElem?_cons_zero, List.getElem?_cons_succ] at h0 h1 h2 h3 h4 h5 h6 h7 h8
    obtain ⟨op, e0, _, _⟩ := DataW.trod_int Tryz.underlying3 h0
    obtain ⟨id, e1, z1⟩ := str_openW h1 (wt_field Tryz.underlying93 hw (j := 1) rfl rfl)
    obtain ⟨other, e2, z2⟩ := str_openW h2 (wt_field Tryz.underlying93 hw (j := 2) rfl rfl)
    obtain ⟨node, e3, z3⟩ := str_openW h3 (wt_field Tryz.underlying93 hw (j := 3) rfl rfl)
    obtain ⟨a, b, e4⟩ := point_open h4
    obtain ⟨key, e5, z5⟩ := str_openW h5 (wt_field Tryz.underlying93 hw (j := 5) rfl rfl)
    obtain ⟨value, e6, z6⟩ := str_open h6
    obtain ⟨A7, q7, refs, e7, l7, r7⟩ := strs_open h7 (wt_field Tryz.underlying93 hw (j := 7) rfl rfl)
    obtain ⟨o, e8, io, tgo, zo, co⟩ := ob_open h8 (wt_field Tryz.underlying93 hw (j := 8) rfl rfl)
    cases e0; cases e1; cases e2; cases e3; cases e4; cases e5; cases e6
    refine ⟨⟨op, id, other, node, a, b, key, value, refs, c8, o⟩, ?_, ⟨⟨A7, q7, e7, r7⟩, io⟩, ⟨fun A n c e => by
      have e : c8 = .slice A n c := e
      rw [e7] at e; injection e with _ e1 e2; omega, co⟩, ⟨z1, z2, z3, z5, zo, tgo⟩⟩
    obtain ⟨⟨i1, i2, i3, i4, i5, i6⟩, i7, i8⟩ := o
    cases e8
    rfl
theorem eds_open {fuel : Nat} {v : Value} {x : DataW H × List MemPlace} (h : DataW.trod enc Tryz.prog w base (fun _ => true) held fuel 40 [v] = some x) (hw : Wt 40 x.1) : ∃ l : List EV, ∃ A c, v = .slice A l.length c ∧ EsW w A l := by
  obtain ⟨A, c, l, rfl, -, -, h1, h2⟩ := slice_open evL (EvW w) 15 (by decide) (fun _ => rfl) ⟨0, [], [], [], 0, 0, [], [], [], .slice none 0 0, ⟨⟨[], 0, 0, 0, [], []⟩, .slice none 0 0, .slice none 0 0⟩⟩ Tryz.underlying40 (by kernel_rfl) (fun _ _ _ h hw => ed_open h hw) h hw
  exact ⟨l, A, c, rfl, h1, h2⟩
theorem seal_open {fuel : Nat} {cs : List Value} {x : DataW H × List MemPlace} (h : DataW.trod enc Tryz.prog w base (fun _ => true) held fuel 51 cs = some x) (hw : Wt 51 x.1) : ∃ s : SlV, cs = slL s ∧ SlvIs w s := by
  obtain ⟨ys, n, _, rfl, hl, hyl, hf⟩ := DataW.trod_struct Tryz.underlying51 h
  have hc : Tryz.prog.cellsOf 51 = 3 := by kernel_rfl
  have hi : Tryz.prog.cellsOf 3 = 1 := by kernel_rfl
  have hr : Tryz.prog.cellsOf 35 = 1 := by kernel_rfl
  rw [hc] at hl
  match cs, hl, ys, hyl with
  | [c0, c1, c2], _, [y0, y1, y2], _ =>
    have h0 := hf 0 _ rfl
    have h1 := hf 1 _ rfl
    have h2 := hf 2 _ rfl
    simp only [hi, hr, List.drop_zero, List.take_succ_cons, List.take_zero, List.drop_succ_cons, List.getElem?_cons_zero, List.getElem?_cons_succ] at h0 h1 h2
    obtain ⟨ix, e0, _, _⟩ := DataW.trod_int Tryz.underlying3 h0
    obtain ⟨sg, r1⟩ := strs_openI h1 (wt_field Tryz.underlying51 hw (j := 1) rfl rfl)
    obtain ⟨pt, r2⟩ := strs_openI h2 (wt_field Tryz.underlying51 hw (j := 2) rfl rfl)
    cases e0
    exact ⟨⟨ix, sg, pt, c1, c2⟩, rfl, r1, r2⟩
theorem rec_open {fuel : Nat} {cs : List Value} {x : DataW H × List MemPlace} (h : DataW.trod enc Tryz.prog w base (fun _ => true) held fuel 56 cs = some x) (hw : Wt 56 x.1) : ∃ r : RV, cs = rvL r ∧ RvW w r := by
  obtain ⟨ys, n, _, rfl, hl, hyl, hf⟩ := DataW.trod_struct Tryz.underlying56 h
  have hc : Tryz.prog.cellsOf 56 = 21 := by kernel_rfl
  have hs : Tryz.prog.cellsOf 9 = 1 := by kernel_rfl
  have hi : Tryz.prog.cellsOf 3 = 1 := by kernel_rfl
  have hb : Tryz.prog.cellsOf 4 = 1 := by kernel_rfl
  have hr : Tryz.prog.cellsOf 35 = 1 := by kernel_rfl
  have he : Tryz.prog.cellsOf 40 = 1 := by kernel_rfl
  have hp : Tryz.prog.cellsOf 52 = 1 := by kernel_rfl
  have hq : Tryz.prog.cellsOf 51 = 3 := by kernel_rfl
  have hv : Tryz.prog.cellsOf 54 = 7 := by kernel_rfl
  rw [hc] at hl
  match cs, hl, ys, hyl with
  | [c0, c1, c2, c3, c4, c5, c6, c7, c8, c9, c10, c11, c12, c13, c14, c15, c16, c17, c18, c19, c20], _, [y0, y1, y2, y3, y4, y5, y6, y7, y8, y9, y10, y11, y12], _ =>
    have h0 := hf 0 _ rfl
    have h1 := hf 1 _ rfl
    have h2 := hf 2 _ rfl
    have h3 := hf 3 _ rfl
    have h4 := hf 4 _ rfl
    have h5 := hf 5 _ rfl
    have h6 := hf 6 _ rfl
    have h7 := hf 7 _ rfl
    have h8 := hf 8 _ rfl
    have h9 := hf 9 _ rfl
    have h10 := hf 10 _ rfl
    have h11 := hf 11 _ rfl
    have h12 := hf 12 _ rfl
    simp only [hs, hi, hb, hr, he, hq, hv, List.drop_zero, List.take_succ_cons, List.take_zero, List.drop_succ_cons, List.getElem?_cons_zero, List.getElem?_cons_succ] at h0 h1 h2 h3 h4 h5 h6 h7 h8 h9 h10 h11 h12
    obtain ⟨kind, e0, _, _⟩ := DataW.trod_int Tryz.underlying3 h0
    obtain ⟨author, e1, _, _⟩ := DataW.trod_int Tryz.underlying3 h1
    obtain ⟨number, e2, _, _⟩ := DataW.trod_int Tryz.underlying3 h2
    obtain ⟨clock, e3, _, _⟩ := DataW.trod_int Tryz.underlying3 h3
    obtain ⟨branch, e4, _⟩ := str_open h4
    obtain ⟨parents, r5⟩ := strs_openI h5 (wt_field Tryz.underlying56 hw (j := 5) rfl rfl)
    obtain ⟨edits, r6⟩ := eds_open h6 (wt_field Tryz.underlying56 hw (j := 6) rfl rfl)
    obtain ⟨target, e7, _⟩ := str_open h7
    obtain ⟨yes, e8, _⟩ := DataW.trod_bool Tryz.underlying4 h8
    obtain ⟨order, e9, _, _⟩ := DataW.trod_int Tryz.underlying3 h9
    obtain ⟨frm, e10, _⟩ := str_open h10
    obtain ⟨sl, e11, r11⟩ := seal_open h11 (wt_field Tryz.underlying56 hw (j := 11) rfl rfl)
    have hw12 := wt_field Tryz.underlying56 hw (j := 12) rfl rfl
    obtain ⟨zs, m, _, e12, hl2, hzl, hf2⟩ := DataW.trod_struct Tryz.underlying54 h12
    subst e12
    match zs, hzl with
    | [z0, z1, z2, z3, z4], _ =>
      have k0 := hf2 0 _ rfl
      have k1 := hf2 1 _ rfl
      have k2 := hf2 2 _ rfl
      have k3 := hf2 3 _ rfl
      have k4 := hf2 4 _ rfl
      simp only [hs, hr, hp, hq, List.drop_zero, List.take_succ_cons, List.take_zero, List.drop_succ_cons, List.getElem?_cons_zero, List.getElem?_cons_succ] at k0 k1 k2 k3 k4
      obtain ⟨name, f0, _⟩ := str_open k0
      obtain ⟨reason, f1, _⟩ := str_open k1
      obtain ⟨sources, s2⟩ := strs_openI k2 (wt_field Tryz.underlying54 hw12 (j := 2) rfl rfl)
      obtain ⟨trace, s3⟩ := pts_open k3 (wt_field Tryz.underlying54 hw12 (j := 3) rfl rfl)
      obtain ⟨ps, f4, s4⟩ := seal_open k4 (wt_field Tryz.underlying54 hw12 (j := 4) rfl rfl)
      cases e0; cases e1; cases e2; cases e3; cases e4; cases e7; cases e8; cases e9; cases e10; cases f0; cases f1
      refine ⟨⟨kind, author, number, clock, branch, parents, c5, edits, c6, target, yes, order, frm, sl, name, reason, sources, c16, trace, c17, ps⟩, ?_, r5, r6, r11, s2, s3, s4⟩
      obtain ⟨i1, i2, i3, i4, i5⟩ := sl
      obtain ⟨j1, j2, j3, j4, j5⟩ := ps
      cases e11
      cases f4
      rfl
theorem recs_open {fuel : Nat} {v : Value} {x : DataW H × List MemPlace} (h : DataW.trod enc Tryz.prog w base (fun _ => true) held fuel 22 [v] = some x) (hw : Wt 22 x.1) : ∃ (A : Option Addr) (c : Nat) (l : List RV), v = .slice A l.length c ∧ l.length ≤ c ∧ c ≤ 9223372036854775807 ∧ Rw w A l := by
  obtain ⟨A, c, l, rfl, h0, h3, h1, h2⟩ := slice_open rvL (RvW w) 21 (by decide) (fun _ => rfl) ⟨0, 0, 0, 0, [], [], .slice none 0 0, [], .slice none 0 0, [], false, 0, [], ⟨0, [], [], .slice none 0 0, .slice none 0 0⟩, [], [], [], .slice none 0 0, [], .slice none 0 0, ⟨0, [], [], .slice none 0 0, .slice none 0 0⟩⟩ Tryz.underlying22 (by kernel_rfl) (fun _ _ _ h hw => rec_open h hw) h hw
  exact ⟨A, c, l, rfl, h0, by simpa [maxLen] using h3, ⟨h1, h2⟩⟩
theorem wt_arg {ts : List TypeId} {ds : List (DataW H)} (h : (DataW.weightsEach Tryz.prog ts ds).all (· ≤ reachBytes) = true) {j : Nat} {t : TypeId} {d : DataW H} (ht : ts[j]? = some t) (hd : ds[j]? = some d) : Wt t d := fun n hn => by
  simpa using List.all_eq_true.1 h n (DataW.weights_mem_each ht hd n hn)
end
end Go.Proofs.YtniklmikdkjgiaaGreatDoor
namespace Go.Proofs.YtniklmikdkjgiaaGreatDoor
open Go.RowKit
theorem tab_of {W : World} {d1 d2 : DataW Unit} {n1 n2 : String} {rest : List (String × DataW Unit)} (h : laidMet Tryz.prog ((n1, d1) :: (n2, d2) :: ("internal/strconv.uint64pow10", Rows.laid_internal_strconv_uint64pow10) :: rest) W) : Tab W := by
  have h2 := laidMet.tail (laidMet.tail h)
  rw [show Rows.laid_internal_strconv_uint64pow10 (H := Unit) = Lib.tabData .u64 Lib.pow10Tab by kernel_rfl] at h2
  exact Lib.tabIs_of_head (g := 0) (t := 238) (e := 135) (n := 20) (by kernel_rfl) (by kernel_rfl) (by kernel_rfl) (by kernel_rfl) (by kernel_rfl) (by kernel_rfl) h2
end Go.Proofs.YtniklmikdkjgiaaGreatDoor
