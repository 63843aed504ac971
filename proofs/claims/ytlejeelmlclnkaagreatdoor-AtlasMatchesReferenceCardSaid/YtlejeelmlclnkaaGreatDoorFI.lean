/- HOW ARGUMENTS ARE OPENED: maps of objects, objects, differences. | the row's listed table, as the walks ask for it | WALKS: the law's turned: differences with Old and New exchanged; the reference's SameDeltas, at lists of one content. | PLAIN: the reference's Patch and Diff. | PLAIN: the reference's Diff. | WALKS: ref12.Diff (printed by gen_fi.py). -/
import Derived.Test.YtlejeelmlclnkaaGreatDoorRows
import Derived.Test.YtlejeelmlclnkaaGreatDoorCC
import Derived.Deep.Slices
import Derived.Deep.Fields
import Derived.ChangeSame
import Derived.ChangeArms
import Derived.SizedLaws
import Derived.SliceStrings
import Derived.OpenShut
import Derived.Test.YtlejeelmlclnkaaGreatDoorQ7
import Derived.Lib.LaidTab
import Derived.Stop.LaidErr
import Derived.Test.YtlejeelmlclnkaaGreatDoorDA
import Derived.Test.YtlejeelmlclnkaaGreatDoorAR
import Derived.Test.YtlejeelmlclnkaaGreatDoorRF
import Derived.Test.YtlejeelmlclnkaaGreatDoorFA
import Derived.Test.YtlejeelmlclnkaaGreatDoorCJ
import Derived.Laws.Rows
import Derived.Test.YtlejeelmlclnkaaGreatDoorWD
set_option linter.unusedSimpArgs false
set_option linter.unusedVariables false
namespace Go.Proofs.YtlejeelmlclnkaaGreatDoor
open Go.RowKit Go.ChangeShapes Go.WideShapes Go.Deep

section
variable {H : Type} {enc : TypeId × Value → H} {w : World} {base : Nat} {held : Bool}
theorem flat_back {α : Type} (f : α → List Value) (m : Nat) (hm : 0 < m) (hf : ∀ a, (f a).length = m) {l : List α} {q : Nat} {u : Value} (h : (l.flatMap f)[q]? = some u) : ∃ hk : q / m < l.length, (f l[q / m])[q % m]? = some u := by
  have hq := (List.getElem?_eq_some_iff.1 h).1
  rw [flat_len f m hf] at hq
  have hk : q / m < l.length := (Nat.div_lt_iff_lt_mul hm).2 hq
  have hr : q % m < (f l[q / m]).length := by rw [hf]; exact Nat.mod_lt _ hm
  have := flat_get f m hf hk (List.getElem?_eq_getElem hr)
  rw [Nat.mul_comm, Nat.div_add_mod, h] at this
  exact ⟨hk, by rw [List.getElem?_eq_getElem hr, this]⟩
theorem slice_open {α : Type} (f : α → List Value) (G : α → Prop) (k : Nat) (hk : 0 < k) (hf : ∀ a, (f a).length = k) (a0 : α) {t e : TypeId} (ht : Tryz.prog.underlying t = some (.slice e)) (hC : Tryz.prog.cellsOf e = k)
    (hel : ∀ (fuel : Nat) (cs : List Value) (x : DataW H × List MemPlace), DataW.trod enc Tryz.prog w base (fun _ => true) held fuel e cs = some x → ∃ a, cs = f a ∧ G a) {fuel : Nat} {v : Value} {x : DataW H × List MemPlace}
    (h : DataW.trod enc Tryz.prog w base (fun _ => true) held fuel t [v] = some x) : ∃ (A : Option Addr) (c : Nat) (l : List α), v = .slice A l.length c ∧ l.length ≤ c ∧ c ≤ maxLen ∧ Rd w A (l.flatMap f) ∧ ∀ a ∈ l, G a := by
  rcases open_slice ht h with ⟨hcs, rfl⟩ | ⟨a, len, cap, m, n, D, Pl, hcs, hb, hl, hm, hmm, hx, hi⟩
  · cases hcs
    exact ⟨none, 0, [], rfl, Nat.le_refl _, by simp [maxLen], Rd.nil_ _ _, fun p hp => by cases hp⟩
  · cases hcs
    simp only [if_true] at hmm
    subst hmm
    have hh : ∀ i, i < m → ∃ p : α, G p ∧ ∀ j u, (f p)[j]? = some u → w.cell? (a.add (i * k + j)) = some u := by
      intro i him
      obtain ⟨cs', hc, ht'⟩ := hi i him
      obtain ⟨p, rfl, hG⟩ := hel _ _ _ ht'
      rw [hC] at hc
      obtain ⟨_, _, hat⟩ := World.cells?_some hc
      refine ⟨p, hG, fun j u hu => ?_⟩
      have hj : j < k := by rw [← hf p]; exact (List.getElem?_eq_some_iff.1 hu).1
      have := hat j hj
      rw [add_add, hu] at this
      exact this
    obtain ⟨g, hg⟩ : ∃ g : Nat → α, ∀ i, i < m → G (g i) ∧ ∀ j u, (f (g i))[j]? = some u → w.cell? (a.add (i * k + j)) = some u :=
      ⟨fun i => if h : i < m then (hh i h).choose else a0, fun i him => by simp only [dif_pos him]; exact (hh i him).choose_spec⟩
    refine ⟨some a, m, (List.range len).map g, by simp, by simpa using hl, hm, fun h0 => ?_, ?_⟩
    · rw [flat_len f k hf] at h0
      have hl0 : 0 < len := by rcases Nat.eq_zero_or_pos len with e | e
                               · subst e; simp at h0
                               · exact e
      have hc0 : ∃ u, (f (g 0))[0]? = some u := ⟨(f (g 0))[0]'(by rw [hf]; exact hk), List.getElem?_eq_getElem _⟩
      obtain ⟨u0, hu0⟩ := hc0
      have hz := (hg 0 (by omega)).2 0 u0 hu0
      obtain ⟨b, off, spot⟩ := a
      have hs : spot = none := by
        have := World.cell?_spot hz
        simpa [Addr.add] using this
      subst hs
      refine ⟨b, off, rfl, ?_, ?_⟩
      · rw [Addr.add_lit] at hz
        exact World.block_lt_of_cell? w _ hz
      · intro q u hu
        obtain ⟨hk2, h2⟩ := flat_back f k hk hf hu
        have hi2 : q / k < len := by simpa using hk2
        simp only [List.getElem_map, List.getElem_range] at h2
        have := (hg (q / k) (by omega)).2 _ _ h2
        rw [Nat.mul_comm, Nat.div_add_mod, Addr.add_lit] at this
        exact this
    · intro p hp
      obtain ⟨i, hi', rfl⟩ := List.mem_map.1 hp
      exact (hg i (by have := List.mem_range.1 hi'; omega)).1
theorem str_open {fuel : Nat} {cs : List Value} {x : DataW H × List MemPlace} (h : DataW.trod enc Tryz.prog w base (fun _ => true) held fuel 9 cs = some x) : ∃ s : Tx, cs = [.string (mkB s)] ∧ s.length ≤ 9223372036854775807 := by
  obtain ⟨s, rfl, -, hs⟩ := DataW.trod_string Tryz.underlying9 h
  exact ⟨s.data.toList, by rw [mkB_of], by simpa [maxLen] using hs⟩
theorem strs_flat (l : List Tx) : (l.flatMap fun s => [Value.string (mkB s)]) = strsC l := by
  induction l with
  | nil => rfl
  | cons x l ih => rw [List.flatMap_cons, ih]; rfl
theorem strs_open {fuel : Nat} {v : Value} {x : DataW H × List MemPlace} (h : DataW.trod enc Tryz.prog w base (fun _ => true) held fuel 40 [v] = some x) : ∃ l : List Tx, SlIs w v l.length (strsC l) := by
  obtain ⟨A, c, l, rfl, -, -, h1, -⟩ := slice_open (fun s : Tx => [.string (mkB s)]) (fun _ => True) 1 (by decide) (fun _ => rfl) [] Tryz.underlying40 (by kernel_rfl) (fun _ _ _ h => by obtain ⟨s, e, _⟩ := str_open h; exact ⟨s, e, trivial⟩) h
  rw [strs_flat] at h1
  exact ⟨l, A, c, rfl, h1⟩
def TagSz (t : Tx × Tx) : Prop := t.1.length ≤ 9223372036854775807 ∧ t.2.length ≤ 9223372036854775807
set_option maxRecDepth 100000 in
theorem tag_open {fuel : Nat} {cs : List Value} {x : DataW H × List MemPlace} (h : DataW.trod enc Tryz.prog w base (fun _ => true) held fuel 94 cs = some x) : ∃ t : Tx × Tx, cs = tagC t ∧ TagSz t := by
  obtain ⟨y0, y1, n, _, hl, h0, h1⟩ := trod_struct2 Tryz.underlying94 h
  have hc : Tryz.prog.cellsOf 94 = 2 := by kernel_rfl
  have hi : Tryz.prog.cellsOf 9 = 1 := by kernel_rfl
  rw [hc] at hl
  match cs, hl with
  | [c0, c1], _ =>
    simp only [hi, List.drop_zero, List.take_succ_cons, List.take_zero, List.drop_succ_cons] at h0 h1
    obtain ⟨a, ha, wa⟩ := str_open h0
    obtain ⟨b, hb, wb⟩ := str_open h1
    cases ha; cases hb
    exact ⟨(a, b), rfl, wa, wb⟩
theorem tags_open {fuel : Nat} {v : Value} {x : DataW H × List MemPlace} (h : DataW.trod enc Tryz.prog w base (fun _ => true) held fuel 41 [v] = some x) : ∃ l : List (Tx × Tx), SlIs w v l.length (tagsC l) ∧ ∀ t ∈ l, TagSz t := by
  obtain ⟨A, c, l, rfl, -, -, h1, h2⟩ := slice_open tagC TagSz 2 (by decide) (fun _ => rfl) ([], []) Tryz.underlying41 (by kernel_rfl) (fun _ _ _ h => tag_open h) h
  exact ⟨l, ⟨A, c, rfl, h1⟩, h2⟩
/-- what is known of an object that came in -/
def ObIn (w : World) (r : RO) : Prop := ObIs w r ∧ (∀ t ∈ r.c.tags, TagSz t) ∧ r.c.id.length ≤ 9223372036854775807
set_option maxRecDepth 100000 in
theorem point_open {fuel : Nat} {cs : List Value} {x : DataW H × List MemPlace} (h : DataW.trod enc Tryz.prog w base (fun _ => true) held fuel 39 cs = some x) : ∃ a b : Int, cs = [.int .i64 a, .int .i64 b] := by
  obtain ⟨y0, y1, n, _, hl, h0, h1⟩ := trod_struct2 Tryz.underlying39 h
  have hc : Tryz.prog.cellsOf 39 = 2 := by kernel_rfl
  have hi : Tryz.prog.cellsOf 3 = 1 := by kernel_rfl
  rw [hc] at hl
  match cs, hl with
  | [c0, c1], _ =>
    simp only [hi, List.drop_zero, List.take_succ_cons, List.take_zero, List.drop_succ_cons] at h0 h1
    obtain ⟨a, ha, _, wa⟩ := DataW.trod_int Tryz.underlying3 h0
    obtain ⟨b, hb, _, wb⟩ := DataW.trod_int Tryz.underlying3 h1
    cases ha; cases hb
    exact ⟨a, b, rfl⟩
set_option maxRecDepth 100000 in
theorem ob_open {fuel : Nat} {cs : List Value} {x : DataW H × List MemPlace} (h : DataW.trod enc Tryz.prog w base (fun _ => true) held fuel 43 cs = some x) : ∃ r : RO, cs = roC r ∧ ObIn w r := by
  obtain ⟨ys, n, _, _, hl, hyl, hf⟩ := DataW.trod_struct Tryz.underlying43 h
  have hc : Tryz.prog.cellsOf 43 = 6 := by kernel_rfl
  have hs : Tryz.prog.cellsOf 9 = 1 := by kernel_rfl
  have hi : Tryz.prog.cellsOf 3 = 1 := by kernel_rfl
  have hp : Tryz.prog.cellsOf 39 = 2 := by kernel_rfl
  have hr : Tryz.prog.cellsOf 40 = 1 := by kernel_rfl
  have hg : Tryz.prog.cellsOf 41 = 1 := by kernel_rfl
  rw [hc] at hl
  match cs, hl, ys, hyl with
  | [c0, c1, c2, c3, c4, c5], _, [y0, y1, y2, y3, y4], _ =>
    have h0 := hf 0 _ rfl
    have h1 := hf 1 _ rfl
    have h2 := hf 2 _ rfl
    have h3 := hf 3 _ rfl
    have h4 := hf 4 _ rfl
    simp only [hs, hi, hp, hr, hg, List.drop_zero, List.take_succ_cons, List.take_zero, List.drop_succ_cons, List.getElem?_cons_zero, List.getElem?_cons_succ] at h0 h1 h2 h3 h4
    obtain ⟨id, e0, z0⟩ := str_open h0
    obtain ⟨kind, e1, _, _⟩ := DataW.trod_int Tryz.underlying3 h1
    obtain ⟨a, b, e2⟩ := point_open h2
    obtain ⟨refs, r3⟩ := strs_open h3
    obtain ⟨tags, r4, z4⟩ := tags_open h4
    cases e0; cases e1; cases e2
    exact ⟨⟨⟨id, kind, a, b, refs, tags⟩, c4, c5⟩, rfl, ⟨r3, r4⟩, z4, z0⟩
theorem obs_open {fuel : Nat} {v : Value} {x : DataW H × List MemPlace} (h : DataW.trod enc Tryz.prog w base (fun _ => true) held fuel 22 [v] = some x) : ∃ (A : Option Addr) (c : Nat) (l : List RO), v = .slice A l.length c ∧ l.length ≤ c ∧ c ≤ 9223372036854775807 ∧ Mw w A l := by
  obtain ⟨A, c, l, rfl, h0, h3, h1, h2⟩ := slice_open roC (ObIn w) 6 (by decide) (fun _ => rfl) zeroRO Tryz.underlying22 (by kernel_rfl) (fun _ _ _ h => ob_open h) h
  exact ⟨A, c, l, rfl, h0, by simpa [maxLen] using h3, ⟨h1, fun r hr => (h2 r hr).1, fun r hr => (h2 r hr).2.1⟩⟩
set_option maxRecDepth 100000 in
theorem mapc_open {fuel : Nat} {cs : List Value} {x : DataW H × List MemPlace} (h : DataW.trod enc Tryz.prog w base (fun _ => true) held fuel 24 cs = some x) : ∃ (A : Option Addr) (c : Nat) (l : List RO), cs = [.slice A l.length c] ∧ l.length ≤ c ∧ c ≤ 9223372036854775807 ∧ Mw w A l := by
  obtain ⟨y0, n, _, hl, h0⟩ := trod_struct1 Tryz.underlying24 h
  have hc : Tryz.prog.cellsOf 24 = 1 := by kernel_rfl
  have hr : Tryz.prog.cellsOf 22 = 1 := by kernel_rfl
  rw [hc] at hl
  match cs, hl with
  | [c0], _ =>
    simp only [hr, List.drop_zero, List.take_succ_cons, List.take_zero] at h0
    obtain ⟨A, c, l, e, h1⟩ := obs_open h0
    exact ⟨A, c, l, by rw [e], h1⟩
set_option maxRecDepth 100000 in
theorem map_open {r : Reach} {b0 : Nat} {v : Value} {d : DataW H} {p : List MemPlace} (hv : Value.okWide Tryz.prog w r b0 24 v) (h : DataW.Trod enc Tryz.prog w base (fun _ => true) held 24 v d p) :
    ∃ (A : Option Addr) (c : Nat) (l : List RO), v = .agg #[.slice A l.length c] ∧ l.length ≤ c ∧ c ≤ 9223372036854775807 ∧ Mw w A l := by
  obtain ⟨cs, rfl, hcs⟩ := okWide_struct Tryz.underlying24 hv
  obtain ⟨fuel, hf⟩ := h
  obtain ⟨A, c, l, e, h1⟩ := mapc_open hf
  have e2 : cs = #[.slice A l.length c] := by simpa [Value.cells] using congrArg List.toArray e
  exact ⟨A, c, l, by rw [e2], h1⟩
set_option maxRecDepth 100000 in
theorem obj_open {r : Reach} {b0 : Nat} {v : Value} {d : DataW H} {p : List MemPlace} (hv : Value.okWide Tryz.prog w r b0 43 v) (h : DataW.Trod enc Tryz.prog w base (fun _ => true) held 43 v d p) :
    ∃ o : RO, v = roA o ∧ ObIn w o := by
  obtain ⟨cs, rfl, hcs⟩ := okWide_struct Tryz.underlying43 hv
  obtain ⟨fuel, hf⟩ := h
  obtain ⟨o, e, h1⟩ := ob_open hf
  have e2 : cs = (roC o).toArray := by simpa [Value.cells] using congrArg List.toArray e
  exact ⟨o, by rw [e2]; rfl, h1⟩
/-- what is known of a difference that came in -/
def DlIn (w : World) (d : DV) : Prop := ObIn w d.o ∧ ObIn w d.n ∧ d.id.length ≤ 9223372036854775807
set_option maxRecDepth 100000 in
theorem dl_open {fuel : Nat} {cs : List Value} {x : DataW H × List MemPlace} (h : DataW.trod enc Tryz.prog w base (fun _ => true) held fuel 45 cs = some x) : ∃ d : DV, cs = dvC d ∧ DlIn w d := by
  obtain ⟨ys, n, _, _, hl, hyl, hf⟩ := DataW.trod_struct Tryz.underlying45 h
  have hc : Tryz.prog.cellsOf 45 = 15 := by kernel_rfl
  have hs : Tryz.prog.cellsOf 9 = 1 := by kernel_rfl
  have hb : Tryz.prog.cellsOf 4 = 1 := by kernel_rfl
  have ho : Tryz.prog.cellsOf 43 = 6 := by kernel_rfl
  rw [hc] at hl
  match cs, hl, ys, hyl with
  | [c0, c1, c2, c3, c4, c5, c6, c7, c8, c9, c10, c11, c12, c13, c14], _, [y0, y1, y2, y3, y4], _ =>
    have h0 := hf 0 _ rfl
    have h1 := hf 1 _ rfl
    have h2 := hf 2 _ rfl
    have h3 := hf 3 _ rfl
    have h4 := hf 4 _ rfl
    simp only [hs, hb, ho, List.drop_zero, List.take_succ_cons, List.take_zero, List.drop_succ_cons, List.getElem?_cons_zero, List.getElem?_cons_succ] at h0 h1 h2 h3 h4
    obtain ⟨id, e0, z0⟩ := str_open h0
    obtain ⟨was, e1, _⟩ := DataW.trod_bool Tryz.underlying4 h1
    obtain ⟨is, e2, _⟩ := DataW.trod_bool Tryz.underlying4 h2
    obtain ⟨o, e3, z3⟩ := ob_open h3
    obtain ⟨n, e4, z4⟩ := ob_open h4
    cases e0; cases e1; cases e2
    refine ⟨⟨id, was, is, o, n⟩, ?_, z3, z4, z0⟩
    show _ :: _ :: _ :: [c3, c4, c5, c6, c7, c8, c9, c10, c11, c12, c13, c14] = _ :: _ :: _ :: (roC o ++ roC n)
    rw [← e3, ← e4]; rfl
theorem dls_open {fuel : Nat} {v : Value} {x : DataW H × List MemPlace} (h : DataW.trod enc Tryz.prog w base (fun _ => true) held fuel 28 [v] = some x) : ∃ (A : Option Addr) (c : Nat) (l : List DV), v = .slice A l.length c ∧ l.length ≤ c ∧ c ≤ 9223372036854775807 ∧ Rd w A (dvsC l) ∧ ∀ d ∈ l, DlIn w d := by
  obtain ⟨A, c, l, rfl, h0, h3, h1, h2⟩ := slice_open dvC (DlIn w) 15 (by decide) (fun _ => rfl) ⟨[], false, false, zeroRO, zeroRO⟩ Tryz.underlying28 (by kernel_rfl) (fun _ _ _ h => dl_open h) h
  exact ⟨A, c, l, rfl, h0, by simpa [maxLen] using h3, h1, h2⟩
end
end Go.Proofs.YtlejeelmlclnkaaGreatDoor
namespace Go.Proofs.YtlejeelmlclnkaaGreatDoor
open Go.RowKit

theorem tab_of {W : World} {d1 d2 : DataW Unit} {n1 n2 : String} {rest : List (String × DataW Unit)} (h : laidMet Tryz.prog ((n1, d1) :: (n2, d2) :: ("internal/strconv.uint64pow10", Rows.laid_internal_strconv_uint64pow10) :: rest) W) : Tab W := by
  have h2 := laidMet.tail (laidMet.tail h)
  rw [show Rows.laid_internal_strconv_uint64pow10 (H := Unit) = Lib.tabData .u64 Lib.pow10Tab by kernel_rfl] at h2
  exact Lib.tabIs_of_head (g := 3) (t := 161) (e := 87) (n := 20) (by kernel_rfl) (by kernel_rfl) (by kernel_rfl) (by kernel_rfl) (by kernel_rfl) (by kernel_rfl) h2
end Go.Proofs.YtlejeelmlclnkaaGreatDoor
namespace Go.Proofs.YtlejeelmlclnkaaGreatDoor
open Go.RowKit

def turnV (d : DV) : DV := ⟨d.id, d.is, d.was, d.n, d.o⟩
theorem turnV_d (l : List DV) : (l.map turnV).map DV.d = (l.map DV.d).map At.turnD := by rw [List.map_map, List.map_map]; rfl
/-- what is known of a list of differences that lies in memory: a small one -/
structure Ds (w : World) (A : Option Addr) (l : List DV) : Prop where
  rd : Rd w A (dvsC l)
  is : ∀ d ∈ l, DvIs w d ∧ DvSz d
  len : l.length ≤ 10000
theorem Ds.below {w w' : World} {A : Option Addr} {l : List DV} (h : Ds w A l) (hb : Below w.heap.size w w') : Ds w' A l := ⟨h.rd.below hb, fun d hd => ⟨(h.is d hd).1.below hb, (h.is d hd).2⟩, h.len⟩
theorem Ds.dm {w : World} {A : Option Addr} {l : List DV} (h : Ds w A l) : Dm w A l := ⟨h.rd, fun d hd => (h.is d hd).1, fun d hd => (h.is d hd).2, h.len⟩
def TuE (w : World) (l : List DV) (e : Ending) (w' : World) : Prop := ∃ (A : Option Addr) (c : Nat), e = .returned (.slice A l.length c) ∧ Ds w' A (l.map turnV) ∧ Below w.heap.size w w'
set_option maxHeartbeats 4000000 in
set_option maxRecDepth 100000 in
theorem turned_any (A : Option Addr) (n c : Nat) (l : List DV) (w : World) (hn : n = l.length) (h : Ds w A l) :
    Calls Tryz.prog 15 #[.slice A n c] w (TuE w l) := by
  have H := Lib.hid h
  have HN := Lib.hid hn
  have hl : n ≤ 10000 := by rw [hn]; exact h.len
  have ST : Hid (w.ownsRow w.heap.size 45 15 (.slice none 0 0) ((l.take 0).map turnV).length (dvsC ((l.take 0).map turnV))) := Lib.hid (World.ownsRow_nil _ _ _ _)
  clear h hn
  go_enter Tryz.func15, Tryz.ntmps15
  go_wp2_with fail
  go_loopw [3, 4] (fun s3 s4 wr => ∃ k : Nat, k ≤ n ∧ s4 = .int .i64 (k : Int) ∧ Hid (wr.ownsRow w.heap.size 45 15 s3 ((l.take k).map turnV).length (dvsC ((l.take k).map turnV))) ∧ Hid (Below w.heap.size w wr)) (fun _ i _ => n - (intOf i).toNat)
  case atStart => exact ⟨0, Nat.zero_le _, rfl, ST, Lib.hid (Below.refl _ _)⟩
  case round =>
    clear ST
    obtain ⟨k, hk, rfl, OW, BL⟩ := hrel
    by_cases hlt : k < n
    · have hkl : k < l.length := by rw [← HN.out]; exact hlt
      have d1 : (k : Int) < (n : Int) := by omega
      have d2 : (0 : Int) ≤ (k : Int) := by omega
      obtain ⟨b, off, rfl, hb, hcell⟩ := dvs_at H.out.rd hkl
      have DI := (H.out.is l[k] (List.getElem_mem hkl)).1
      have TK : Hid ((l.take (k + 1)).map turnV = (l.take k).map turnV ++ [turnV l[k]]) := Lib.hid (by rw [List.take_succ_eq_append_getElem hkl, List.map_append]; rfl)
      generalize l[k] = x at *
      obtain ⟨A1, q1, v1, -⟩ := DI.o.rs
      obtain ⟨A2, q2, v2, -⟩ := DI.o.ts
      obtain ⟨A3, q3, v3, -⟩ := DI.n.rs
      obtain ⟨A4, q4, v4, -⟩ := DI.n.ts
      have eC := dvC_eq v1 v2 v3 v4
      have eT : dvC (turnV x) = dlL (turnV x) A3 q3 A4 q4 A1 q1 A2 q2 := dvC_eq v3 v4 v1 v2
      rw [eC] at hcell
      unfold dlL at hcell
      have KK : ∀ f u, ([.string (mkB x.id), .bool x.was, .bool x.is, .string (mkB x.o.c.id), .int .i64 x.o.c.kind, .int .i64 x.o.c.x, .int .i64 x.o.c.y, .slice A1 x.o.c.refs.length q1, .slice A2 x.o.c.tags.length q2, .string (mkB x.n.c.id), .int .i64 x.n.c.kind, .int .i64 x.n.c.x, .int .i64 x.n.c.y, .slice A3 x.n.c.refs.length q3, .slice A4 x.n.c.tags.length q4] : List Value)[f]? = some u → ∀ z, OldB w z → z.cell? ⟨b, off + k * 15 + f, none⟩ = some u := fun f u hu z hz => (World.cell?_of_block (w := w) (hz.block b hb)).trans (hcell f u hu)
      have c0 := KK 0 _ rfl
      have c1 := KK 1 _ rfl
      have c2 := KK 2 _ rfl
      have c3 := KK 3 _ rfl
      have c4 := KK 4 _ rfl
      have c5 := KK 5 _ rfl
      have c6 := KK 6 _ rfl
      have c7 := KK 7 _ rfl
      have c8 := KK 8 _ rfl
      have c9 := KK 9 _ rfl
      have c10 := KK 10 _ rfl
      have c11 := KK 11 _ rfl
      have c12 := KK 12 _ rfl
      have c13 := KK 13 _ rfl
      have c14 := KK 14 _ rfl
      simp only [Nat.add_zero] at c0
      have HT := Lib.hid eT
      have ln : ((l.take k).map turnV).length ≤ k := by simp; omega
      generalize (l.take k).map turnV = P at *
      clear hcell KK DI v1 v2 v3 v4 eC eT
      go_upto_region 5 with fail
      obtain ⟨A9, c9, ev9, -⟩ := own_sl OW.out
      subst ev9
      have bz := BL.out.size
      (refine wp_region_noPanic ?_; refine wp_region_held_drew (S := (OldB w)) (by kernel_rfl) ?_ (fun hHeld => ?_); exact BL.out.drew)
      (refine tkW 0 ?_; try simp only [gmS])
      (refine tkW 1 ?_; try simp only [gmS])
      (refine tkW 2 ?_; try simp only [gmS])
      (refine tkW 3 ?_; try simp only [gmS])
      (refine tkW 4 ?_; try simp only [gmS])
      (refine tkW 5 ?_; try simp only [gmS])
      (refine tkW 6 ?_; try simp only [gmS])
      (refine tkW 7 ?_; try simp only [gmS])
      (refine tkW 8 ?_; try simp only [gmS])
      (refine tkW 9 ?_; try simp only [gmS])
      (refine tkW 10 ?_; try simp only [gmS])
      (refine tkW 11 ?_; try simp only [gmS])
      (refine tkW 12 ?_; try simp only [gmS])
      (refine tkW 13 ?_; try simp only [gmS])
      (refine tkW 14 ?_; try simp only [gmS])
      (refine tkW 15 ?_; try simp only [gmS])
      (refine tkW 16 ?_; try simp only [gmS])
      (refine tkW 17 ?_; try simp only [gmS])
      (refine tkW 18 ?_; try simp only [gmS])
      (refine tkW 19 ?_; try simp only [gmS])
      (refine tkW 20 ?_; try simp only [gmS])
      (refine tkW 21 ?_; try simp only [gmS])
      (refine tkW 22 ?_; try simp only [gmS])
      (refine tkW 23 ?_; try simp only [gmS])
      (refine tkW 24 ?_; try simp only [gmS])
      (refine tkW 25 ?_; try simp only [gmS])
      (refine tkW 26 ?_; try simp only [gmS])
      (refine rdW 27 (fun K hK => ?_); go_simp)
      (refine hK.out _ _ (OldB.alloc hHeld _) (fun hHeld2 => ?_); clear hK K hHeld; have hHeld := hHeld2; clear hHeld2; try simp only [gmS])
      (refine rdW 28 (fun K hK => ?_))
      refine step_appB rfl (.tmp 11) (.tmp 38) 28 rfl Tryz.underlying28 info_dl rfl (by decide) w.heap.size (.slice A9 P.length c9) P.length 1 (dvsC P) wr.drew #[.string (mkB x.id), .bool x.is, .bool x.was, .string (mkB x.n.c.id), .int .i64 x.n.c.kind, .int .i64 x.n.c.x, .int .i64 x.n.c.y, .slice A3 x.n.c.refs.length q3, .slice A4 x.n.c.tags.length q4, .string (mkB x.o.c.id), .int .i64 x.o.c.kind, .int .i64 x.o.c.x, .int .i64 x.o.c.y, .slice A1 x.o.c.refs.length q1, .slice A2 x.o.c.tags.length q2] rfl (by intro y hy; simp at hy; rcases hy with rfl | rfl | rfl | rfl | rfl | rfl | rfl | rfl | rfl | rfl | rfl | rfl | rfl | rfl | rfl <;> rfl) rfl rfl rfl (own_same OW.out (fun g hg => rfl)) (by show w.heap.size ≤ wr.heap.size; exact bz) (by omega) (by omega) (by decide) ?_
      intro A6 c6 w6 hown6 hb6 hg6
      have D3 := Lib.hid (BL.out.drew.trans hb6)
      have O6 := Lib.hid hown6
      (refine hK.out _ _ D3.out (fun hHeld2 => ?_); clear hK K hHeld; have hHeld := hHeld2; clear hHeld2; try simp only [gmS])
      (refine tkW 29 ?_; try simp only [gmS])
      (refine wpAnyH_done (by kernel_rfl) ?_ _; refine NoPanic.normal ?_)
      clear hHeld hown6 hb6 hg6
      go_wp2_with fail
      refine ⟨⟨k + 1, by omega, by go_num, ?_, D3⟩, by simp [intOf]; omega⟩
      have e1 : dvsC (P ++ [turnV x]) = dvsC P ++ [.string (mkB x.id), .bool x.is, .bool x.was, .string (mkB x.n.c.id), .int .i64 x.n.c.kind, .int .i64 x.n.c.x, .int .i64 x.n.c.y, .slice A3 x.n.c.refs.length q3, .slice A4 x.n.c.tags.length q4, .string (mkB x.o.c.id), .int .i64 x.o.c.kind, .int .i64 x.o.c.x, .int .i64 x.o.c.y, .slice A1 x.o.c.refs.length q1, .slice A2 x.o.c.tags.length q2] := by rw [dvsC_app]; exact congrArg (dvsC P ++ ·) (by unfold dvsC; rw [List.flatMap_singleton, HT.out]; rfl)
      rw [TK.out, List.length_append, e1]
      exact O6
    · have d1 : ¬ (k : Int) < (n : Int) := by omega
      have TT : Hid (l.take k = l) := Lib.hid (List.take_of_length_le (by rw [← HN.out]; omega))
      rw [TT.out] at OW
      obtain ⟨A9, c9, ev9, hr9⟩ := own_sl OW.out
      subst ev9
      have R9 := Lib.hid hr9
      clear hr9 TT
      go_wp2_with fail
      go_ret
      refine ⟨A9, c9, rfl, ⟨R9.out, fun d hd => ?_, by rw [List.length_map]; exact H.out.len⟩, BL.out⟩
      obtain ⟨y, hy, rfl⟩ := List.mem_map.1 hd
      obtain ⟨h1, h2⟩ := H.out.is y hy
      exact ⟨⟨(h1.below BL.out).n, (h1.below BL.out).o⟩, h2.1, h2.2.2, h2.2.1⟩
set_option maxHeartbeats 4000000 in
set_option maxRecDepth 100000 in
theorem samed_eq (A B : Option Addr) (n m c d : Nat) (l l' : List DV) (w : World) (hn : n = l.length) (hm : m = l'.length) (hE : l.map DV.d = l'.map DV.d) (h : Ds w A l) (h2 : Ds w B l') :
    Calls Tryz.prog 18 #[.slice A n c, .slice B m d] w fun e w' => e = .returned (.bool true) ∧ Below w.heap.size w w' := by
  have H := Lib.hid h
  have H2 := Lib.hid h2
  have HN := Lib.hid hn
  have HE := Lib.hid hE
  have hl : n ≤ 10000 := by rw [hn]; exact h.len
  obtain rfl : m = n := by rw [hn, hm]; have := congrArg List.length hE; simpa using this.symm
  have HM := Lib.hid hm
  clear h h2 hn hE hm
  go_enter Tryz.func18, Tryz.ntmps18
  go_wp2_with fail
  go_loopw [5] (fun s5 wr => ∃ k : Nat, k ≤ m ∧ s5 = .int .i64 (k : Int) ∧ Hid (Below w.heap.size w wr)) (fun i _ => m - (intOf i).toNat)
  case atStart => exact ⟨0, Nat.zero_le _, rfl, Lib.hid (Below.refl _ _)⟩
  case round =>
    obtain ⟨k, hk, rfl, BL⟩ := hrel
    by_cases hlt : k < m
    · have hkl : k < l.length := by rw [← HN.out]; exact hlt
      have hkl2 : k < l'.length := by rw [← HM.out]; exact hlt
      have d1 : (k : Int) < (m : Int) := by omega
      have d2 : (0 : Int) ≤ (k : Int) := by omega
      obtain ⟨b, off, rfl, hb, hcell⟩ := dvs_at (H.out.rd.below BL.out) hkl
      obtain ⟨b', off', rfl, hb', hcell'⟩ := dvs_at (H2.out.rd.below BL.out) hkl2
      obtain ⟨DI, DZ⟩ := (H.out.below BL.out).is l[k] (List.getElem_mem hkl)
      obtain ⟨DI', DZ'⟩ := (H2.out.below BL.out).is l'[k] (List.getElem_mem hkl2)
      have EK : l[k].d = l'[k].d := by
        have := congrArg (fun L : List At.Dl => L[k]?) HE.out
        simpa [hkl, hkl2] using this
      generalize l[k] = x at *
      generalize l'[k] = y at *
      obtain ⟨xi, xw, xs, ⟨xc, xr, xt⟩, ⟨xd, xu, xv⟩⟩ := x
      obtain ⟨yi, yw, ys, ⟨yc, yr, yt⟩, ⟨yd, yu, yv⟩⟩ := y
      obtain ⟨rfl, rfl, rfl, rfl, rfl⟩ : xi = yi ∧ xw = yw ∧ xs = ys ∧ xc = yc ∧ xd = yd := by
        simp only [DV.d, At.Dl.mk.injEq] at EK
        exact EK
      have S1 : Hid (∀ u, Below wr.heap.size wr u → Calls Tryz.prog 53 #[roA ⟨xc, xr, xt⟩, roA ⟨xc, yr, yt⟩] u fun e w' => e = .returned (.bool true) ∧ Below u.heap.size u w') := Lib.hid (fun u hu => by
        have := rsame_any ⟨xc, xr, xt⟩ ⟨xc, yr, yt⟩ u (DI.o.below hu) (DI'.o.below hu) DZ.2.1.1 DZ'.2.1.1
        rwa [At.sameO_refl] at this)
      have S2 : Hid (∀ u, Below wr.heap.size wr u → Calls Tryz.prog 53 #[roA ⟨xd, xu, xv⟩, roA ⟨xd, yu, yv⟩] u fun e w' => e = .returned (.bool true) ∧ Below u.heap.size u w') := Lib.hid (fun u hu => by
        have := rsame_any ⟨xd, xu, xv⟩ ⟨xd, yu, yv⟩ u (DI.n.below hu) (DI'.n.below hu) DZ.2.2.1 DZ'.2.2.1
        rwa [At.sameO_refl] at this)
      obtain ⟨A1, q1, v1, -⟩ := DI.o.rs
      obtain ⟨A2, q2, v2, -⟩ := DI.o.ts
      obtain ⟨A3, q3, v3, -⟩ := DI.n.rs
      obtain ⟨A4, q4, v4, -⟩ := DI.n.ts
      obtain ⟨A5, q5, v5, -⟩ := DI'.o.rs
      obtain ⟨A6, q6, v6, -⟩ := DI'.o.ts
      obtain ⟨A7, q7, v7, -⟩ := DI'.n.rs
      obtain ⟨A8, q8, v8, -⟩ := DI'.n.ts
      dsimp only at v1 v2 v3 v4 v5 v6 v7 v8
      subst v1 v2 v3 v4 v5 v6 v7 v8
      unfold roA at S1 S2
      dsimp only at S1 S2
      have cx : ∀ f u, (dvC ⟨xi, xw, xs, ⟨xc, .slice A1 xc.refs.length q1, .slice A2 xc.tags.length q2⟩, ⟨xd, .slice A3 xd.refs.length q3, .slice A4 xd.tags.length q4⟩⟩)[f]? = some u → ∀ z, Below wr.heap.size wr z → z.cell? ⟨b, off + k * 15 + f, none⟩ = some u := fun f u hu z hz => (World.cell?_of_block (w := wr) (hz.block b hb)).trans (hcell f u hu)
      have cy : ∀ f u, (dvC ⟨xi, xw, xs, ⟨xc, .slice A5 xc.refs.length q5, .slice A6 xc.tags.length q6⟩, ⟨xd, .slice A7 xd.refs.length q7, .slice A8 xd.tags.length q8⟩⟩)[f]? = some u → ∀ z, Below wr.heap.size wr z → z.cell? ⟨b', off' + k * 15 + f, none⟩ = some u := fun f u hu z hz => (World.cell?_of_block (w := wr) (hz.block b' hb')).trans (hcell' f u hu)
      have CX := Lib.hid cx
      have CY := Lib.hid cy
      clear hcell hcell' DI DI' DZ DZ' EK cx cy
      have t1 := mkB_tl xi
      go_upto_region 6 with fail
      (refine wp_region_noPanic ?_; refine wp_region_held_drew (S := (OldB wr)) (by kernel_rfl) ?_ (fun hHeld => ?_); exact Below.drew (Below.refl _ _))
      have a0 := fun z (hz : OldB wr z) => CX.out 0 _ rfl z hz
      have e0 := fun z (hz : OldB wr z) => CY.out 0 _ rfl z hz
      simp only [Nat.add_zero] at a0 e0
      (refine tkW 0 ?_; try simp only [gmS])
      (refine tkW 1 ?_; try simp only [gmS])
      (refine tkW 2 ?_; try simp only [gmS])
      (refine tkW 3 ?_; try simp only [gmS])
      (refine tkW 4 ?_; try simp only [gmS])
      (refine tkW 5 ?_; try simp only [gmS])
      (refine tkW 6 ?_; try simp only [gmS])
      (refine tkW 7 ?_; try simp only [gmS])
      (refine tkW 8 ?_; try simp only [gmS])
      (refine tkW 9 ?_; try simp only [gmS])
      (refine tkW 10 ?_; try simp only [gmS])
      clear a0 e0
      have a1 := fun z (hz : OldB wr z) => CX.out 1 _ rfl z hz
      have e1 := fun z (hz : OldB wr z) => CY.out 1 _ rfl z hz
      (refine tkK 11 ?_; try simp only [gmS])
      (refine tkK 12 ?_; try simp only [gmS])
      (refine tkK 13 ?_; try simp only [gmS])
      (refine tkK 14 ?_; try simp only [gmS])
      (refine tkK 15 ?_; try simp only [gmS])
      (refine tkK 16 ?_; try simp only [gmS])
      (refine tkK 17 ?_; try simp only [gmS])
      (refine tkK 18 ?_; try simp only [gmS])
      (refine tkK 19 ?_; try simp only [gmS])
      (refine tkK 20 ?_; try simp only [gmS])
      (refine tkK 21 ?_; try simp only [gmS])
      (refine tkK 22 ?_; try simp only [gmS])
      clear a1 e1
      have a2 := fun z (hz : OldB wr z) => CX.out 2 _ rfl z hz
      have e2 := fun z (hz : OldB wr z) => CY.out 2 _ rfl z hz
      (refine tkK 23 ?_; try simp only [gmS])
      (refine tkK 24 ?_; try simp only [gmS])
      (refine tkK 25 ?_; try simp only [gmS])
      (refine tkK 26 ?_; try simp only [gmS])
      (refine tkK 27 ?_; try simp only [gmS])
      (refine tkK 28 ?_; try simp only [gmS])
      (refine tkK 29 ?_; try simp only [gmS])
      (refine tkK 30 ?_; try simp only [gmS])
      (refine tkK 31 ?_; try simp only [gmS])
      (refine tkK 32 ?_; try simp only [gmS])
      (refine tkK 33 ?_; try simp only [gmS])
      (refine tkK 34 ?_; try simp only [gmS])
      (refine tkK 35 ?_; try simp only [gmS])
      clear a2 e2
      have a3 := fun z (hz : OldB wr z) => CX.out 3 _ rfl z hz
      have e3 := fun z (hz : OldB wr z) => CY.out 3 _ rfl z hz
      have a4 := fun z (hz : OldB wr z) => CX.out 4 _ rfl z hz
      have e4 := fun z (hz : OldB wr z) => CY.out 4 _ rfl z hz
      have a5 := fun z (hz : OldB wr z) => CX.out 5 _ rfl z hz
      have e5 := fun z (hz : OldB wr z) => CY.out 5 _ rfl z hz
      have a6 := fun z (hz : OldB wr z) => CX.out 6 _ rfl z hz
      have e6 := fun z (hz : OldB wr z) => CY.out 6 _ rfl z hz
      have a7 := fun z (hz : OldB wr z) => CX.out 7 _ rfl z hz
      have e7 := fun z (hz : OldB wr z) => CY.out 7 _ rfl z hz
      have a8 := fun z (hz : OldB wr z) => CX.out 8 _ rfl z hz
      have e8 := fun z (hz : OldB wr z) => CY.out 8 _ rfl z hz
      (refine tkK 36 ?_; try simp only [gmS])
      (refine tkK 37 ?_; try simp only [gmS])
      (refine tkK 38 ?_; try simp only [gmS])
      (refine tkK 39 ?_; try simp only [gmS])
      (refine tkK 40 ?_; try simp only [gmS])
      (refine tkK 41 ?_; try simp only [gmS])
      (refine tkK 42 ?_; try simp only [gmS])
      (refine tkK 43 ?_; try simp only [gmS])
      (refine tkK 44 ?_; try simp only [gmS])
      (refine tkK 45 ?_; try simp only [gmS])
      (refine tkK 46 ?_; try simp only [gmS])
      (refine tkK 47 ?_; try simp only [gmS])
      clear a3 e3 a4 e4 a5 e5 a6 e6 a7 e7 a8 e8
      (refine rdW 48 (fun K hK => ?_); go_simp)
      refine (S1.out _ hHeld).mono ?_
      rintro e z1 ⟨rfl, h1⟩
      (refine hK.out _ _ (OldB.then hHeld h1) (fun hHeld2 => ?_); clear hK K hHeld; have hHeld := hHeld2; clear hHeld2; try simp only [gmS])
      (refine tkK 49 ?_; try simp only [gmS])
      (refine tkK 50 ?_; try simp only [gmS])
      (refine tkK 51 ?_; try simp only [gmS])
      have a9 := fun z (hz : OldB wr z) => CX.out 9 _ rfl z hz
      have e9 := fun z (hz : OldB wr z) => CY.out 9 _ rfl z hz
      have a10 := fun z (hz : OldB wr z) => CX.out 10 _ rfl z hz
      have e10 := fun z (hz : OldB wr z) => CY.out 10 _ rfl z hz
      have a11 := fun z (hz : OldB wr z) => CX.out 11 _ rfl z hz
      have e11 := fun z (hz : OldB wr z) => CY.out 11 _ rfl z hz
      have a12 := fun z (hz : OldB wr z) => CX.out 12 _ rfl z hz
      have e12 := fun z (hz : OldB wr z) => CY.out 12 _ rfl z hz
      have a13 := fun z (hz : OldB wr z) => CX.out 13 _ rfl z hz
      have e13 := fun z (hz : OldB wr z) => CY.out 13 _ rfl z hz
      have a14 := fun z (hz : OldB wr z) => CX.out 14 _ rfl z hz
      have e14 := fun z (hz : OldB wr z) => CY.out 14 _ rfl z hz
      (refine tkK 52 ?_; try simp only [gmS])
      (refine tkK 53 ?_; try simp only [gmS])
      (refine tkK 54 ?_; try simp only [gmS])
      (refine tkK 55 ?_; try simp only [gmS])
      (refine tkK 56 ?_; try simp only [gmS])
      (refine tkK 57 ?_; try simp only [gmS])
      (refine tkK 58 ?_; try simp only [gmS])
      (refine tkK 59 ?_; try simp only [gmS])
      (refine tkK 60 ?_; try simp only [gmS])
      (refine tkK 61 ?_; try simp only [gmS])
      clear a9 e9 a10 e10 a11 e11 a12 e12 a13 e13 a14 e14
      (refine rdW 62 (fun K hK => ?_); go_simp)
      refine (S2.out _ hHeld).mono ?_
      rintro e z2 ⟨rfl, h2⟩
      (refine hK.out _ _ (OldB.then hHeld h2) (fun hHeld2 => ?_); clear hK K hHeld; have hHeld := hHeld2; clear hHeld2; try simp only [gmS])
      (refine tkK 63 ?_; try simp only [gmS])
      (refine tkK 64 ?_; try simp only [gmS])
      have OW := Lib.hid hHeld
      (refine wpAnyH_done (by kernel_rfl) ?_ _; refine NoPanic.normal ?_)
      clear hHeld h1 h2 S1 S2 CX CY
      go_wp2_with fail
      exact ⟨⟨k + 1, by omega, by go_num, Lib.hid (BL.out.trans (Below.mono OW.out BL.out.size))⟩, by simp [intOf]; omega⟩
    · have d1 : ¬ (k : Int) < (m : Int) := by omega
      go_wp2_with fail
      go_ret
      exact ⟨rfl, BL.out⟩
end Go.Proofs.YtlejeelmlclnkaaGreatDoor
namespace Go.Proofs.YtlejeelmlclnkaaGreatDoor
open Go.RowKit

def stepR (acc : List At.Ob) (d : At.Dl) : List At.Ob := if d.is then At.putF acc d.new else woF acc d.id
def rpatchGo (m : List At.Ob) : List At.Ob → List At.Dl → Option (List At.Ob)
  | acc, [] => some acc
  | acc, d :: l => if At.fitB (At.look m d.id) d then rpatchGo m (stepR acc d) l else none
theorem wo_dropP {l : List At.Ob} (h : At.Srt l) (id : Tx) : woF l id = At.dropF l id :=
  At.srt_ext (wo_srt h id) (At.srt_dropF h id) fun o => by
    rw [At.mem_dropF]
    unfold woF
    rw [List.mem_filter]
    simp
theorem stepR_srt {acc : List At.Ob} (h : At.Srt acc) (d : At.Dl) : At.Srt (stepR acc d) := by
  unfold stepR; split
  · exact At.srt_put h _
  · exact wo_srt h _
theorem stepR_len {acc : List At.Ob} (h : At.Srt acc) (d : At.Dl) : (stepR acc d).length ≤ acc.length + 1 := by
  unfold stepR; split
  · exact At.length_put_le h _
  · exact Nat.le_trans (List.length_filter_le _ _) (Nat.le_succ _)
theorem stepR_look {acc : List At.Ob} (h : At.Srt acc) {d : At.Dl} (ho : d.is = true → d.new.id = d.id) (id : Tx) : At.look (stepR acc d) id = if id = d.id then (if d.is then some d.new else none) else At.look acc id := by
  unfold stepR
  cases hi : d.is
  · simp only [Bool.false_eq_true, if_false]
    rw [wo_dropP h, At.look_dropF h]
  · simp only [if_true]
    rw [At.look_put h, ho hi]
theorem rpatchGo_spec (m : List At.Ob) : ∀ {l : List At.Dl} {acc : List At.Ob}, At.Srt acc → At.SrtD l → At.Own l →
    (At.Fits m l → ∃ r, rpatchGo m acc l = some r ∧ At.Srt r ∧ (∀ id, At.look r id = match At.lookD l id with | none => At.look acc id | some d => if d.is then some d.new else none)) ∧ (¬ At.Fits m l → rpatchGo m acc l = none)
  | [], acc, ha, _, _ => ⟨fun _ => ⟨acc, rfl, ha, fun id => rfl⟩, fun h => absurd (fun d hd => by cases hd) h⟩
  | d :: l, acc, ha, hl, ho => by
    have hl' := List.pairwise_cons.1 hl
    obtain ⟨ih1, ih2⟩ := @rpatchGo_spec m l (stepR acc d) (stepR_srt ha d) hl'.2 (fun x hx => ho x (by simp [hx]))
    have hd0 := ho d (by simp)
    constructor
    · intro hf
      have h1 : At.fitB (At.look m d.id) d = true := At.fitB_iff.2 (hf d (by simp))
      obtain ⟨r, e, hs, hk⟩ := ih1 (fun x hx => hf x (by simp [hx]))
      refine ⟨r, by rw [rpatchGo, if_pos h1]; exact e, hs, fun id => ?_⟩
      rw [hk id]
      by_cases e1 : d.id = id
      · subst e1
        rw [At.lookD_cons_eq, At.lookD_none.2 (fun x hx e => At.lt_ne (hl'.1 x hx) e.symm)]
        show At.look (stepR acc d) d.id = _
        rw [stepR_look ha hd0, if_pos rfl]
      · rw [At.lookD_cons_ne e1]
        cases At.lookD l id with
        | none => show At.look (stepR acc d) id = _; rw [stepR_look ha hd0, if_neg (fun e => e1 e.symm)]
        | some x => rfl
    · intro hf
      rw [rpatchGo]
      by_cases h1 : At.fitB (At.look m d.id) d = true
      · rw [if_pos h1]
        refine ih2 fun hf2 => hf fun x hx => ?_
        rcases List.mem_cons.1 hx with rfl | hx
        · exact At.fitB_iff.1 h1
        · exact hf2 x hx
      · rw [if_neg h1]
theorem rpatch_eq {m : List At.Ob} {l : List At.Dl} (hm : At.validM m = true) (hd : At.deltasFrom [] l = true) (hlen : m.length + l.length ≤ 1000000) :
    At.patchF m l = (match rpatchGo m m l with | none => ([], 12) | some r => (r, 0)) := by
  have hs := (At.validM_iff.1 hm).1
  obtain ⟨hD, hok⟩ := At.deltasFrom_iff.1 hd
  have how := At.own_ok (fun d h => (hok d h).1)
  obtain ⟨p1, p2⟩ := @rpatchGo_spec m l m hs hD how
  obtain ⟨q1, q2⟩ := @At.patchGo_spec l [] m hs hD how
  unfold At.patchF
  rw [hd, hm]
  simp only [Bool.and_self, if_true]
  by_cases hf : At.Fits m l
  · obtain ⟨r, e1, s1, k1⟩ := p1 hf
    obtain ⟨t, e2, s2, k2, -⟩ := q1 hf
    rw [e1, e2, List.nil_append]
    have : t = r := At.look_ext s2 s1 (fun id => by rw [k1, k2]; rfl)
    rw [this]
  · rw [p2 hf, q2 hf]
end Go.Proofs.YtlejeelmlclnkaaGreatDoor
namespace Go.Proofs.YtlejeelmlclnkaaGreatDoor
open Go.RowKit

theorem differs_dOf (id : Tx) (x y : Option At.Ob) : At.differs (At.dOf id x y) = true ↔ x ≠ y := by
  unfold At.differs At.dOf
  cases x with
  | none => cases y <;> simp [At.sameO_refl]
  | some a =>
    cases y with
    | none => simp
    | some b =>
      simp only [Option.isSome_some, ne_eq, not_true_eq_false, decide_false, Bool.false_or, Option.getD_some, Option.some.injEq]
      by_cases e : a = b
      · subst e; simp [At.sameO_refl]
      · simp [At.sameO_ne e, e]
def dL (a b : List At.Ob) (o : At.Ob) : At.Dl := At.dOf o.id (At.look a o.id) (At.look b o.id)
def rdG (a b all : List At.Ob) : List At.Dl := (all.map (dL a b)).filter At.differs
theorem rdG_eq {a b all : List At.Ob} (ha : At.Srt a) (hb : At.Srt b) (hs : At.Srt all) (hl : ∀ id, At.look all id ≠ none ↔ At.look a id ≠ none ∨ At.look b id ≠ none) : rdG a b all = At.diffG a b := by
  refine At.srtD_ext ?_ (At.srt_diff ha hb) fun d => ?_
  · unfold rdG At.SrtD
    refine List.Pairwise.sublist List.filter_sublist ?_
    rw [List.pairwise_map]
    exact hs.imp (fun h => h)
  · rw [At.mem_diff ha hb]
    unfold rdG
    rw [List.mem_filter, List.mem_map]
    constructor
    · rintro ⟨⟨o, ho, rfl⟩, hd⟩
      unfold dL at hd ⊢
      exact ⟨(differs_dOf _ _ _).1 hd, rfl⟩
    · rintro ⟨h1, h2⟩
      have h3 : At.look all d.id ≠ none := (hl d.id).2 (by
        cases ea : At.look a d.id with
        | none => right; intro eb; exact h1 (by rw [ea, eb])
        | some z => left; simp)
      obtain ⟨o, ho⟩ := Option.ne_none_iff_exists'.1 h3
      refine ⟨⟨o, At.look_mem ho, ?_⟩, ?_⟩
      · unfold dL; rw [At.look_id ho]; exact h2.symm
      · rw [h2]
        exact (differs_dOf _ _ _).2 h1
def allF (a b : List At.Ob) : List At.Ob := b.foldl At.putF a
theorem allF_spec : ∀ (b : List At.Ob) {a : List At.Ob}, At.Srt a → At.Srt (allF a b) ∧ (∀ id, At.look (allF a b) id ≠ none ↔ At.look a id ≠ none ∨ At.look b id ≠ none) ∧ (allF a b).length ≤ a.length + b.length
  | [], a, ha => ⟨ha, fun id => by simp [allF, At.look], by simp [allF]⟩
  | o :: b, a, ha => by
    obtain ⟨h1, h2, h3⟩ := allF_spec b (At.srt_put ha o)
    refine ⟨h1, fun id => ?_, ?_⟩
    · show At.look (allF (At.putF a o) b) id ≠ none ↔ _
      rw [h2 id, At.look_put ha]
      by_cases e : id = o.id
      · subst e
        have : At.look (o :: b) o.id = some o := by unfold At.look; rw [List.find?_cons_of_pos (by simp)]
        rw [this]; simp
      · have : At.look (o :: b) id = At.look b id := by unfold At.look; rw [List.find?_cons_of_neg (by simpa using fun h => e h.symm)]
        rw [this, if_neg e]
    · show (allF (At.putF a o) b).length ≤ _
      have := At.length_put_le ha o
      simp only [List.length_cons]
      omega
theorem rdiff_eq {a b : List At.Ob} (ha : At.Srt a) (hb : At.Srt b) : rdG a b (allF a b) = At.diffG a b :=
  rdG_eq ha hb (allF_spec b ha).1 (allF_spec b ha).2.1
theorem rdG_take (a b all : List At.Ob) {k : Nat} (h : k < all.length) : rdG a b (all.take (k + 1)) = rdG a b (all.take k) ++ (if At.differs (dL a b all[k]) then [dL a b all[k]] else []) := by
  unfold rdG
  rw [List.take_succ_eq_append_getElem h, List.map_append, List.filter_append]
  congr 1
  cases e : At.differs (dL a b all[k]) <;> simp [e]
theorem rdG_len (a b all : List At.Ob) (k : Nat) : (rdG a b (all.take k)).length ≤ k := by
  unfold rdG
  refine Nat.le_trans (List.length_filter_le _ _) ?_
  rw [List.length_map, List.length_take]; omega
theorem all_in {a b all : List At.Ob} (hl : ∀ id, At.look all id ≠ none ↔ At.look a id ≠ none ∨ At.look b id ≠ none) {k : Nat} (h : k < all.length) : At.look a all[k].id ≠ none ∨ At.look b all[k].id ≠ none :=
  (hl _).1 (fun e => At.look_none.1 e _ (List.getElem_mem h) rfl)
end Go.Proofs.YtlejeelmlclnkaaGreatDoor
namespace Go.Proofs.YtlejeelmlclnkaaGreatDoor
open Go.RowKit

theorem own_capD {w : World} {base size n n' c : Nat} {A : Option Addr} {e : TypeId} {X : List Value} (h : w.ownsRow base e size (.slice A n c) n' X) : n ≤ c := by
  rcases h.2 with ⟨e1, e2⟩ | ⟨g, cap, cur, e1, _, _, hc, _⟩
  · injection e1 with _ h1 h2; omega
  · injection e1 with _ h1 h2; omega
theorem allF_take {a : List At.Ob} {l : List RO} {k : Nat} (h : k < l.length) : allF a (cts (l.take (k + 1))) = At.putF (allF a (cts (l.take k))) l[k].c := by
  unfold allF cts
  rw [List.take_succ_eq_append_getElem h, List.map_append, List.foldl_append]; rfl
set_option maxHeartbeats 40000000 in
set_option maxRecDepth 100000 in
theorem rdiff_any (A B : Option Addr) (n c m d : Nat) (l l' : List RO) (w : World) (hn : n = l.length) (hm : m = l'.length) (hnm : n + m ≤ 90000) (hc : n ≤ c) (h : Ms w A l) (h2 : Ms w B l') :
    Calls Tryz.prog 41 #[.agg #[.slice A n c], .agg #[.slice B m d]] w (DsE w (At.diffF (cts l) (cts l'))) := by
  have HM := Lib.hid h
  have HM2 := Lib.hid h2
  have HN := Lib.hid hn
  have HN2 := Lib.hid hm
  have HC := Lib.hid hc
  have PM : Hid (At.diffF (cts l) (cts l') = if At.validM (cts l) && At.validM (cts l') then At.diffG (cts l) (cts l') else []) := Lib.hid rfl
  generalize At.diffF (cts l) (cts l') = PP at *
  have EMP : Hid (∀ u, Below w.heap.size w u → PP = [] → DsE w PP (.returned (.slice none 0 0)) u) := Lib.hid (fun u hu e => by
    rw [e]; exact ⟨none, 0, [], rfl, Rd.nil_ _ _, fun d hd => (by cases hd), rfl, Nat.le_refl _, hu⟩)
  obtain ⟨g, hg⟩ : ∃ g, g = w.heap.size := ⟨_, rfl⟩
  obtain ⟨X, hX⟩ : ∃ X, X = (w.alloc (.cells #[.slice A n c] 24)).alloc (.cells #[.slice B m d] 24) := ⟨_, rfl⟩
  have BX : Below w.heap.size w X := by rw [hX]; exact ((Below.refl _ _).alloc (Nat.le_refl _) _).alloc (by simp) _
  have X0 : X.heap[g]? = some (.cells #[.slice A n c] 24 (0, 0)) := by rw [hX, hg]; exact (alloc_old _ _ (by simp)).trans (heap_alloc_new w _)
  have X1 : X.heap[g + 1]? = some (.cells #[.slice B m d] 24 (0, 0)) := by rw [hX, hg]; exact alloc_new' _ _ _ (by simp)
  have XZ : X.heap.size = g + 2 := by rw [hX, hg]; simp
  have hgw : w.heap.size ≤ g := by omega
  have CF : Hid (∀ u, OldB X u → u.cell? ⟨g, 0, none⟩ = some (.slice A n c) ∧ u.cell? ⟨g + 1, 0, none⟩ = some (.slice B m d)) := Lib.hid (fun u hu => by
    have h0 := (hu.block g (by omega)).trans X0
    have h2 := (hu.block (g + 1) (by omega)).trans X1
    exact ⟨cell_of_row u _ 0 _ _ _ h0, cell_of_row u _ 0 _ _ _ h2⟩)
  have BB : Hid (∀ u, OldB X u → Below w.heap.size w u) := Lib.hid (fun u hu => BX.trans (Below.mono hu BX.size))
  have OX : Hid (OldB X X) := Lib.hid (Below.refl _ _)
  have XZH := Lib.hid XZ
  obtain ⟨k0, k1⟩ := CF.out X OX.out
  clear X0 X1 BX h h2 hn hm XZ hc
  go_enter Tryz.func41, Tryz.ntmps41
  go_upto_region 1 with fail
  rw [← hX]
  clear hX
  rw [← hg]
  clear hg
  go_wp2_with fail
  refine (rvalidm_any A c l n X HN.out (HM.out.below (BB.out _ OX.out))).mono ?_
  rintro e u1 ⟨rfl, b1⟩
  have O1 : Hid (OldB X u1) := Lib.hid b1
  clear b1 k0 k1
  obtain ⟨k0, k1⟩ := CF.out u1 O1.out
  cases hV : At.validM (cts l)
  · have PE : PP = [] := by rw [PM.out, hV]; rfl
    go_wp2_with fail
    go_ret
    exact EMP.out _ (BB.out _ O1.out) PE
  · have SR : Hid (At.Srt (cts l)) := Lib.hid (At.validM_iff.1 hV).1
    go_wp2_with fail
    refine (rvalidm_any B d l' m u1 HN2.out (HM2.out.below (BB.out _ O1.out))).mono ?_
    rintro e u2 ⟨rfl, b2⟩
    have O2 := Lib.hid (show OldB X u2 from OldB.then O1.out b2)
    clear b2 k0 k1
    obtain ⟨k0, k1⟩ := CF.out u2 O2.out
    cases hV2 : At.validM (cts l')
    · have PE : PP = [] := by rw [PM.out, hV2, Bool.and_false]; rfl
      go_wp2_with fail
      go_ret
      exact EMP.out _ (BB.out _ O2.out) PE
    · have SR2 : Hid (At.Srt (cts l')) := Lib.hid (At.validM_iff.1 hV2).1
      have PE : Hid (PP = At.diffG (cts l) (cts l')) := Lib.hid (by rw [PM.out, hV, hV2]; rfl)
      have LV := Lib.hid (Live.new (HM.out.below (BB.out _ O2.out)) (show l.length ≤ c by rw [← HN.out]; exact HC.out))
      have B6 : Hid (OldB X (u2.alloc (.cells #[.slice A n c] 24))) := Lib.hid (OldB.then O2.out ((Below.refl _ _).alloc (Nat.le_refl _) _))
      rw [← HN.out] at LV
      obtain ⟨g2, hg2⟩ : ∃ g2, u2.heap.size = g2 := ⟨_, rfl⟩
      have ZZ : X.heap.size ≤ g2 := by rw [← hg2]; exact Below.size O2.out
      have ZU : (u2.alloc (.cells #[.slice A n c] 24)).heap.size = g2 + 1 := by rw [← hg2]; simp
      rw [hg2] at LV
      clear PM hV hV2
      go_upto_region 5 with fail
      try rw [hg2]
      clear hg2 k0 k1
      generalize u2.alloc (.cells #[.slice A n c] 24) = U at *
      have ZX : g + 2 ≤ g2 := by have := XZH.out; omega
      have CB : Hid (∀ u, But (· = g2) U u → OldB X u) := Lib.hid (fun u hu => by
        have := Below.trans B6.out (hu.below (B := X.heap.size) (by omega) (fun k hk => by omega))
        exact this)
      have OB : Hid (But (· = g2) U U) := Lib.hid (But.refl _ _)
      have E0 : Hid (cts l = allF (cts l) (cts (l'.take 0))) := Lib.hid rfl
      go_wp2_with fail
      go_loopw [7] (fun s7 wr => ∃ (k : Nat) (A5 : Option Addr) (c5 : Nat) (R5 : List RO), k ≤ m ∧ s7 = .int .i64 (k : Int) ∧ Hid (Live wr g2 A5 c5 R5) ∧ Hid (But (· = g2) U wr) ∧ Hid (cts R5 = allF (cts l) (cts (l'.take k)))) (fun i _ => m - (intOf i).toNat)
      case atStart => exact ⟨0, _, _, l, Nat.zero_le _, rfl, LV, OB, E0⟩
      case round =>
        clear LV OB E0 O1 O2
        obtain ⟨k, A5, c5, R5, hk, rfl, LV, OB, EQ⟩ := hrel
        obtain ⟨k0, k1⟩ := CF.out wr (CB.out _ OB.out)
        have SP := allF_spec (cts (l'.take k)) SR.out
        have SA : Hid (At.Srt (cts R5)) := Lib.hid (by rw [EQ.out]; exact SP.1)
        have LN : R5.length ≤ n + k := by
          rw [← cts_len R5, EQ.out]
          have h1 := SP.2.2
          rw [cts_len, cts_len, List.length_take] at h1
          have := HN.out
          omega
        clear SP
        by_cases hlt : k < m
        · have hkl : k < l'.length := by rw [← HN2.out]; exact hlt
          have d1 : (k : Int) < (m : Int) := by omega
          have d2 : (0 : Int) ≤ (k : Int) := by omega
          have k8 : IntKind.i64.wrap ((k : Int) + 1) = (k : Int) + 1 := IntWalk.i64_in _ (by omega)
          obtain ⟨b, off, rfl, hb, -⟩ := ros_at HM2.out.rd hkl
          have HO := HM2.out.ob l'[k] (List.getElem_mem hkl)
          have SZ := HM2.out.sz l'[k] (List.getElem_mem hkl)
          obtain ⟨A1, q1, v1, -⟩ := HO.rs
          obtain ⟨A2, q2, v2, -⟩ := HO.ts
          have DC : Hid (∀ f v, ([.string (mkB l'[k].c.id), .int .i64 l'[k].c.kind, .int .i64 l'[k].c.x, .int .i64 l'[k].c.y, .slice A1 l'[k].c.refs.length q1, .slice A2 l'[k].c.tags.length q2] : List Value)[f]? = some v → ∀ u, But (· = g2) U u → u.cell? ⟨b, off + k * 6 + f, none⟩ = some v) := Lib.hid (fun f v hv u hu => by
            obtain ⟨b', off', e', hb', c0, c1, c2, c3, c4, c5⟩ := ros_at (HM2.out.rd.below (BB.out _ (CB.out u hu))) hkl
            obtain ⟨rfl, rfl⟩ : b = b' ∧ off = off' := by injection e' with e'; injection e' with e1 e2; exact ⟨e1, e2⟩
            rw [v1] at c4
            rw [v2] at c5
            match f, hv with
            | 0, hv => simp at hv; subst hv; exact c0
            | 1, hv => simp at hv; subst hv; exact c1
            | 2, hv => simp at hv; subst hv; exact c2
            | 3, hv => simp at hv; subst hv; exact c3
            | 4, hv => simp at hv; subst hv; exact c4
            | 5, hv => simp at hv; subst hv; exact c5)
          have WI : Hid (∀ u, But (· = g2) U u → Ms u A5 R5 → Calls Tryz.prog 68 #[.agg #[.slice A5 R5.length c5], roA l'[k]] u (MapP u (At.putF (cts R5) l'[k].c))) := Lib.hid (fun u hu hM => rwith_any A5 R5.length c5 R5 l'[k] u rfl (by omega) hM (HO.below (BB.out _ (CB.out u hu))) SZ SA.out)
          have TK : Hid (At.putF (cts R5) l'[k].c = allF (cts l) (cts (l'.take (k + 1)))) := Lib.hid (by rw [allF_take hkl, EQ.out])
          unfold roA at WI
          rw [v1, v2] at WI
          clear HO SZ v1 v2 hb EQ
          generalize l'[k].c = x at *
          have K1 : ∀ u, But (· = g2) U u → u.cell? ⟨g + 1, 0, none⟩ = some (.slice (some ⟨b, off, none⟩) m d) := fun u hu => (CF.out u (CB.out u hu)).2
          have f0 := fun u hu => DC.out 0 _ rfl u hu
          have f1 := fun u hu => DC.out 1 _ rfl u hu
          have f2 := fun u hu => DC.out 2 _ rfl u hu
          have f3 := fun u hu => DC.out 3 _ rfl u hu
          have f4 := fun u hu => DC.out 4 _ rfl u hu
          have f5 := fun u hu => DC.out 5 _ rfl u hu
          simp only [Nat.add_zero] at f0
          go_upto_region 8 with fail
          clear k0 k1
          have XD : wr.drew.cell? ⟨g2, 0, none⟩ = some (.slice A5 R5.length c5) := (LV.out.below (Below.drew (Below.refl _ _))).cell
          (refine wp_region_noPanic ?_; refine wp_region_held_drew (S := (fun u : World => But (· = g2) U u)) (by kernel_rfl) ?_ (fun hHeld => ?_); exact OB.out.drew)
          (refine tkW 1 ?_; try simp only [gmS])
          (refine tkW 2 ?_; try simp only [gmS])
          (refine tkW 3 ?_; try simp only [gmS])
          (refine tkW 4 ?_; try simp only [gmS])
          (refine tkW 5 ?_; try simp only [gmS])
          (refine rdW 0 (fun K hK => ?_); go_simp)
          (refine hK.out _ _ hHeld (fun hHeld2 => ?_); clear hK K hHeld; have hHeld := hHeld2; clear hHeld2; try simp only [gmS])
          (refine rdW 6 (fun K hK => ?_); go_simp)
          refine (WI.out _ hHeld (LV.out.ms.below (Below.drew (Below.refl _ _)))).mono ?_
          rintro e u6 ⟨A6, c6, R6, rfl, M6, he6, hc6, b6⟩
          have Y0 := (Below.block b6 g2 (lt_of_block' (show wr.drew.heap[g2]? = _ from LV.out.box))).trans (show wr.drew.heap[g2]? = _ from LV.out.box)
          have Y1 : u6.cell? ⟨g2, 0, none⟩ = some (.slice A5 R5.length c5) := by have := cell_of_row u6 g2 0 _ _ _ Y0; simpa using this
          have Y2 := free_blk Y0 0
          have O6 := But.trans hHeld (But.of_below b6)
          (refine hK.out _ _ O6 (fun hHeld2 => ?_); clear hK K hHeld; have hHeld := hHeld2; clear hHeld2; try simp only [gmS])
          (refine rdW 7 (fun K hK => ?_); go_simp)
          have O7 := But.set O6 (p := ⟨g2, 0, none⟩) rfl (.slice A6 R6.length c6)
          (refine hK.out _ _ O7 (fun hHeld2 => ?_); clear hK K hHeld; have hHeld := hHeld2; clear hHeld2; try simp only [gmS])
          (refine wpAnyH_done (by kernel_rfl) ?_ _; refine NoPanic.normal ?_)
          have L7 := Lib.hid (Live.set Y0 M6 hc6)
          have OO7 := Lib.hid O7
          have EQ7 : Hid (cts R6 = allF (cts l) (cts (l'.take (k + 1)))) := Lib.hid (by rw [he6, TK.out])
          clear hHeld O6 O7 Y0 Y1 Y2 M6 he6 hc6 b6 f0 f1 f2 f3 f4 f5 XD WI
          go_wp2_with fail
          exact ⟨⟨k + 1, A6, c6, R6, by omega, by go_num, L7, OO7, EQ7⟩, by simp [intOf]; omega⟩
        · obtain rfl : k = m := by omega
          have dk : decide ((k : Int) < (k : Int)) = false := by simp
          have TT : l'.take k = l' := List.take_of_length_le (by rw [← HN2.out]; exact Nat.le_refl _)
          have EQA : Hid (cts R5 = allF (cts l) (cts l')) := Lib.hid (by rw [EQ.out, TT])
          have AIN : Hid (∀ k (h : k < R5.length), At.look (cts l) R5[k].c.id ≠ none ∨ At.look (cts l') R5[k].c.id ≠ none) := Lib.hid (fun k h => by
            have hl := (allF_spec (cts l') SR.out).2.1
            rw [← EQA.out] at hl
            have := all_in hl (k := k) (by rw [cts_len]; exact h)
            simpa [cts] using this)
          have PE2 : Hid (PP = rdG (cts l) (cts l') (cts R5)) := Lib.hid (by rw [PE.out, EQA.out, rdiff_eq SR.out SR2.out])
          have OY : Hid (OldB X wr) := Lib.hid (CB.out _ OB.out)
          obtain ⟨Y, hY⟩ : ∃ Y, Y = wr := ⟨_, rfl⟩
          rw [← hY] at OY LV k0 k1 ⊢
          have ST : Hid (Y.ownsRow Y.heap.size 45 15 (.slice none 0 0) ([] : List DV).length (dvsC [])) := Lib.hid (World.ownsRow_nil _ _ _ _)
          have OYY : Hid (OldB Y Y) := Lib.hid (Below.refl _ _)
          have P0 : Hid (([] : List DV).map DV.d = rdG (cts l) (cts l') ((cts R5).take 0) ∧ ∀ x ∈ ([] : List DV), DvIs w x ∧ DvSz x) := Lib.hid ⟨rfl, fun x hx => by cases hx⟩
          clear hlt TT EQ OB CB B6 ZU ZX PE EQA hY
          have FN1 := Lib.hid (fun (id : Tx) (u : World) (hu : OldB Y u) => rfind_any A c l id n u HN.out (HM.out.below (BB.out _ (OldB.then OY.out hu))))
          have FN2 := Lib.hid (fun (id : Tx) (u : World) (hu : OldB Y u) => rfind_any B d l' id k u HN2.out (HM2.out.below (BB.out _ (OldB.then OY.out hu))))
          have CY : Hid (∀ u, OldB Y u → u.cell? ⟨g, 0, none⟩ = some (.slice A n c) ∧ u.cell? ⟨g + 1, 0, none⟩ = some (.slice B k d) ∧ Below w.heap.size w u) := Lib.hid (fun u hu => ⟨(CF.out u (OldB.then OY.out hu)).1, (CF.out u (OldB.then OY.out hu)).2, BB.out _ (OldB.then OY.out hu)⟩)
          have te := mkB_tl []
          have em : (ByteArray.mk #[]) = mkB [] := rfl
          have ee : ByteArray.empty = mkB [] := rfl
          have hkm : k ≤ 90000 := by omega
          have hnn : n ≤ 90000 := by omega
          obtain ⟨N, hN⟩ : ∃ N, R5.length = N := ⟨_, rfl⟩
          have HNN := Lib.hid hN
          have LN2 : N ≤ 90000 := by omega
          clear hnm hN dk LN hk
          go_wp2_with fail
          clear k0 k1
          go_loopw [5, 8] (fun s5 s8 wr => ∃ (j : Nat) (A7 : Option Addr) (c7 : Nat) (Q : List DV), j ≤ N ∧ s8 = .int .i64 (j : Int) ∧ s5 = .slice A7 Q.length c7 ∧ Hid (wr.ownsRow Y.heap.size 45 15 (.slice A7 Q.length c7) Q.length (dvsC Q)) ∧ Hid (Q.map DV.d = rdG (cts l) (cts l') ((cts R5).take j) ∧ ∀ x ∈ Q, DvIs w x ∧ DvSz x) ∧ Hid (OldB Y wr)) (fun _ i _ => N - (intOf i).toNat)
          case atStart => exact ⟨0, none, 0, [], Nat.zero_le _, rfl, rfl, ST, P0, OYY⟩
          case round =>
            clear ST P0 OYY
            obtain ⟨j, A7, c7, Q, hj, rfl, rfl, OW, PQ, OB⟩ := hrel
            obtain ⟨k0, k1, BW⟩ := CY.out wr OB.out
            have BW := Lib.hid BW
            have LVW := Lib.hid (LV.out.below OB.out)
            have k2 := LVW.out.cell
            rw [HNN.out] at k2
            have LQ : Q.length ≤ j := by
              have h1 := congrArg List.length PQ.out.1
              rw [List.length_map] at h1
              have := rdG_len (cts l) (cts l') (cts R5) j
              omega
            by_cases hlt : j < N
            · have hjl : j < R5.length := by rw [HNN.out]; exact hlt
              have d1 : (j : Int) < (N : Int) := by omega
              have d2 : (0 : Int) ≤ (j : Int) := by omega
              have k8 : IntKind.i64.wrap ((j : Int) + 1) = (j : Int) + 1 := IntWalk.i64_in _ (by omega)
              obtain ⟨b5, o5, rfl, hb5, c0, -⟩ := ros_at LVW.out.ms.rd hjl
              have IN := AIN.out j hjl
              have TK : Hid (rdG (cts l) (cts l') ((cts R5).take (j + 1)) = rdG (cts l) (cts l') ((cts R5).take j) ++ (if At.differs (dL (cts l) (cts l') R5[j].c) then [dL (cts l) (cts l') R5[j].c] else [])) := Lib.hid (by
                have := rdG_take (cts l) (cts l') (cts R5) (k := j) (by rw [cts_len]; exact hjl)
                rwa [show (cts R5)[j]'(by rw [cts_len]; exact hjl) = R5[j].c from by simp [cts]] at this)
              have DE : Hid (dL (cts l) (cts l') R5[j].c = At.dOf R5[j].c.id (At.look (cts l) R5[j].c.id) (At.look (cts l') R5[j].c.id)) := Lib.hid rfl
              have SZI : R5[j].c.id.length ≤ 1000000 := (LV.out.ms.sz _ (List.getElem_mem hjl)).1.id
              generalize dL (cts l) (cts l') R5[j].c = dd at *
              generalize R5[j].c.id = id at *
              obtain ⟨g9, hg9⟩ : ∃ g9, wr.heap.size = g9 := ⟨_, rfl⟩
              have HG9 := Lib.hid hg9
              have XX0 : Hid ((wr.alloc (.cells #[.string (mkB id), .bool false, .bool false, .string (mkB []), .int .i64 0, .int .i64 0, .int .i64 0, .slice none 0 0, .slice none 0 0, .string (mkB []), .int .i64 0, .int .i64 0, .int .i64 0, .slice none 0 0, .slice none 0 0] 45)).heap[g9]? = some (.cells #[.string (mkB id), .bool false, .bool false, .string (mkB []), .int .i64 0, .int .i64 0, .int .i64 0, .slice none 0 0, .slice none 0 0, .string (mkB []), .int .i64 0, .int .i64 0, .int .i64 0, .slice none 0 0, .slice none 0 0] 45 (0, 0))) := Lib.hid (by rw [← hg9]; exact heap_alloc_new wr _)
              have OV : Hid (OldB wr (wr.alloc (.cells #[.string (mkB id), .bool false, .bool false, .string (mkB []), .int .i64 0, .int .i64 0, .int .i64 0, .slice none 0 0, .slice none 0 0, .string (mkB []), .int .i64 0, .int .i64 0, .int .i64 0, .slice none 0 0, .slice none 0 0] 45))) := Lib.hid ((Below.refl _ _).alloc (Nat.le_refl _) _)
              go_upto_region 13 with fail
              clear k0 k1 k2 c0
              generalize wr.alloc (.cells #[.string (mkB id), .bool false, .bool false, .string (mkB []), .int .i64 0, .int .i64 0, .int .i64 0, .slice none 0 0, .slice none 0 0, .string (mkB []), .int .i64 0, .int .i64 0, .int .i64 0, .slice none 0 0, .slice none 0 0] 45) = V at *
              try rw [hg9]
              clear hg9
              have OYV := Lib.hid (show OldB Y V from OldB.then OB.out OV.out)
              obtain ⟨k0, k1, -⟩ := CY.out V OYV.out
              have c0 := cell_of_row V g9 0 _ _ _ XX0.out
              simp at c0
              go_wp2_with fail
              refine (FN1.out id _ OYV.out).mono ?_
              rintro e u3 ⟨rfl, b3⟩
              have XX3 := Lib.hid ((Below.block b3 g9 (lt_of_block' XX0.out)).trans XX0.out)
              have OV3 := Lib.hid (show OldB wr u3 from OldB.then OV.out b3)
              have OY3 := Lib.hid (show OldB Y u3 from OldB.then OB.out OV3.out)
              clear b3 k0 k1 c0 XX0 OYV OV
              obtain ⟨k0, k1, -⟩ := CY.out u3 OY3.out
              have c0 := cell_of_row u3 g9 0 _ _ _ XX3.out
              simp at c0
              go_wp2_with fail
              refine (FN2.out id _ OY3.out).mono ?_
              rintro e u4 ⟨rfl, b4⟩
              have XX4 := Lib.hid ((Below.block b4 g9 (lt_of_block' XX3.out)).trans XX3.out)
              have OV4 := Lib.hid (show OldB wr u4 from OldB.then OV3.out b4)
              clear b4 k0 k1 c0 XX3 OV3 OY3
              cases hA : At.look (cts l) id with
              | none =>
                have z1 : findR (cts l) id = -1 := find_none hA
                rw [z1]
                cases hB : At.look (cts l') id with
                | none => exact absurd IN (by rw [hA, hB]; simp)
                | some y2 =>
                  obtain ⟨-, -, zfq⟩ := find_some SR2.out hB
                  obtain ⟨hpq, hzq⟩ := look_pos SR2.out hB
                  rw [zfq]
                  generalize At.pos (cts l') id = q at *
                  have iq1 : (q : Int) < (k : Int) := by have := HN2.out; omega
                  have iq2 : (0 : Int) ≤ (q : Int) := by omega
                  have iq3 : decide ((0 : Int) ≤ (q : Int)) = true := by simp
                  have IOq := Lib.hid (HM2.out.ob l'[q] (List.getElem_mem hpq))
                  have SOq := Lib.hid (HM2.out.sz l'[q] (List.getElem_mem hpq))
                  have RCq : Hid (∀ u, Below w.heap.size w u → ∃ b off, B = some ⟨b, off, none⟩ ∧ u.cell? ⟨b, off + q * 6, none⟩ = some (.string (mkB l'[q].c.id)) ∧ u.cell? ⟨b, off + q * 6 + 1, none⟩ = some (.int .i64 l'[q].c.kind) ∧ u.cell? ⟨b, off + q * 6 + 2, none⟩ = some (.int .i64 l'[q].c.x) ∧ u.cell? ⟨b, off + q * 6 + 3, none⟩ = some (.int .i64 l'[q].c.y) ∧ u.cell? ⟨b, off + q * 6 + 4, none⟩ = some l'[q].rv ∧ u.cell? ⟨b, off + q * 6 + 5, none⟩ = some l'[q].tv) := Lib.hid (fun u hu => by
                    obtain ⟨b, off, e, hb, c0, c1, c2, c3, c4, c5⟩ := ros_at (HM2.out.rd.below hu) hpq
                    exact ⟨b, off, e, c0, c1, c2, c3, c4, c5⟩)
                  obtain ⟨A3, q3, vq1, -⟩ := IOq.out.rs
                  obtain ⟨A4, q4, vq2, -⟩ := IOq.out.ts
                  generalize l'[q] = r2 at *
                  subst hzq
                  have ROq : Hid (roC r2 = [.string (mkB r2.c.id), .int .i64 r2.c.kind, .int .i64 r2.c.x, .int .i64 r2.c.y, .slice A3 r2.c.refs.length q3, .slice A4 r2.c.tags.length q4]) := Lib.hid (by unfold roC; rw [vq1, vq2])
                  have RAq : Hid (roA r2 = .agg #[.string (mkB r2.c.id), .int .i64 r2.c.kind, .int .i64 r2.c.x, .int .i64 r2.c.y, .slice A3 r2.c.refs.length q3, .slice A4 r2.c.tags.length q4]) := Lib.hid (by unfold roA; rw [vq1, vq2])
                  rw [vq1, vq2] at RCq
                  clear vq1 vq2 zfq
                  have hDD : Hid (dd = (⟨id, false, true, At.zeroOb, r2.c⟩ : At.Dl)) := Lib.hid (by rw [DE.out, hA, hB]; rfl)
                  have DF : At.differs dd = true := by rw [hDD.out]; rfl
                  have Ou4 := OV4
                  have Xu4 := XX4
                  clear XX4 OV4 z1 hA hB IN DE
                  go_upto_region 19 with fail
                  obtain ⟨k0, k1, -⟩ := CY.out u4 (OldB.then OB.out Ou4.out)
                  have y2 := cell_of_row u4 g9 2 _ _ _ Xu4.out
                  have yf := free_blk Xu4.out 2
                  simp at y2
                  obtain ⟨w6a, hw6a⟩ : ∃ v, v = u4.setCell ⟨g9, 2, none⟩ (.bool true) := ⟨_, rfl⟩
                  have Xw6a : Hid (w6a.heap[g9]? = some (.cells #[.string (mkB id), .bool false, .bool true, .string (mkB []), .int .i64 0, .int .i64 0, .int .i64 0, .slice none 0 0, .slice none 0 0, .string (mkB []), .int .i64 0, .int .i64 0, .int .i64 0, .slice none 0 0, .slice none 0 0] 45 (0, 0))) := Lib.hid (by rw [hw6a]; have := heap_setCell_same u4 g9 2 _ _ (.bool true) Xu4.out; simpa using this)
                  have Ow6a : Hid (OldB wr w6a) := Lib.hid (by rw [hw6a]; exact Below.setCell Ou4.out (p := ⟨g9, 2, none⟩) (by show wr.heap.size ≤ g9; exact Nat.le_of_eq HG9.out) _)
                  go_upto_region 20 with fail
                  rw [← hw6a]
                  clear hw6a y2 yf k0 k1
                  obtain ⟨k0, k1, BWa⟩ := CY.out w6a (OldB.then OB.out Ow6a.out)
                  obtain ⟨ba, oa, hba, f0, f1, f2, f3, f4, f5⟩ := RCq.out w6a BWa
                  rw [hba] at k1
                  have y9 := cell_of_row w6a g9 9 _ _ _ Xw6a.out
                  have y10 := cell_of_row w6a g9 10 _ _ _ Xw6a.out
                  have y11 := cell_of_row w6a g9 11 _ _ _ Xw6a.out
                  have y12 := cell_of_row w6a g9 12 _ _ _ Xw6a.out
                  have y13 := cell_of_row w6a g9 13 _ _ _ Xw6a.out
                  have y14 := cell_of_row w6a g9 14 _ _ _ Xw6a.out
                  have z9 := free_blk Xw6a.out 9
                  have z10 := free_blk Xw6a.out 10
                  have z11 := free_blk Xw6a.out 11
                  have z12 := free_blk Xw6a.out 12
                  have z13 := free_blk Xw6a.out 13
                  have z14 := free_blk Xw6a.out 14
                  simp at y9 y10 y11 y12 y13 y14
                  obtain ⟨w6, hw6⟩ : ∃ v, v = (((((w6a.setCell ⟨g9, 9, none⟩ (.string (mkB r2.c.id))).setCell ⟨g9, 10, none⟩ (.int .i64 r2.c.kind)).setCell ⟨g9, 11, none⟩ (.int .i64 r2.c.x)).setCell ⟨g9, 12, none⟩ (.int .i64 r2.c.y)).setCell ⟨g9, 13, none⟩ (.slice A3 r2.c.refs.length q3)).setCell ⟨g9, 14, none⟩ (.slice A4 r2.c.tags.length q4) := ⟨_, rfl⟩
                  have Xw6 : Hid (w6.heap[g9]? = some (.cells #[.string (mkB id), .bool false, .bool true, .string (mkB []), .int .i64 0, .int .i64 0, .int .i64 0, .slice none 0 0, .slice none 0 0, .string (mkB r2.c.id), .int .i64 r2.c.kind, .int .i64 r2.c.x, .int .i64 r2.c.y, .slice A3 r2.c.refs.length q3, .slice A4 r2.c.tags.length q4] 45 (0, 0))) := Lib.hid (by rw [hw6]; have := (heap_setCell_same _ g9 14 _ _ (.slice A4 r2.c.tags.length q4) (heap_setCell_same _ g9 13 _ _ (.slice A3 r2.c.refs.length q3) (heap_setCell_same _ g9 12 _ _ (.int .i64 r2.c.y) (heap_setCell_same _ g9 11 _ _ (.int .i64 r2.c.x) (heap_setCell_same _ g9 10 _ _ (.int .i64 r2.c.kind) (heap_setCell_same _ g9 9 _ _ (.string (mkB r2.c.id)) Xw6a.out)))))); simpa using this)
                  have Ow6 : Hid (OldB wr w6) := Lib.hid (by rw [hw6]; exact (Below.setCell ((Below.setCell ((Below.setCell ((Below.setCell ((Below.setCell ((Below.setCell (Ow6a.out) (p := ⟨g9, 9, none⟩) (by show wr.heap.size ≤ g9; exact Nat.le_of_eq HG9.out) _)) (p := ⟨g9, 10, none⟩) (by show wr.heap.size ≤ g9; exact Nat.le_of_eq HG9.out) _)) (p := ⟨g9, 11, none⟩) (by show wr.heap.size ≤ g9; exact Nat.le_of_eq HG9.out) _)) (p := ⟨g9, 12, none⟩) (by show wr.heap.size ≤ g9; exact Nat.le_of_eq HG9.out) _)) (p := ⟨g9, 13, none⟩) (by show wr.heap.size ≤ g9; exact Nat.le_of_eq HG9.out) _)) (p := ⟨g9, 14, none⟩) (by show wr.heap.size ≤ g9; exact Nat.le_of_eq HG9.out) _))
                  go_upto_region 21 with fail
                  rw [← hw6]
                  clear hw6 k0 k1 BWa hba f0 f1 f2 f3 f4 f5 y9 z9 y10 z10 y11 z11 y12 z12 y13 z13 y14 z14
                  have y1 := cell_of_row w6 g9 1 _ _ _ Xw6.out
                  have y2 := cell_of_row w6 g9 2 _ _ _ Xw6.out
                  simp at y1 y2
                  go_upto_region 22 with fail
                  clear y1 y2
                  obtain ⟨x, hx⟩ : ∃ x : DV, x = ⟨id, false, true, zeroRO, r2⟩ := ⟨_, rfl⟩
                  have DX : Hid (dvsC [x] = [.string (mkB id), .bool false, .bool true, .string (mkB []), .int .i64 0, .int .i64 0, .int .i64 0, .slice none 0 0, .slice none 0 0, .string (mkB r2.c.id), .int .i64 r2.c.kind, .int .i64 r2.c.x, .int .i64 r2.c.y, .slice A3 r2.c.refs.length q3, .slice A4 r2.c.tags.length q4]) := Lib.hid (by rw [hx]; unfold dvsC; rw [List.flatMap_singleton]; unfold dvC; rw [ROq.out]; rfl)
                  have QX : Hid ((Q ++ [x]).map DV.d = rdG (cts l) (cts l') ((cts R5).take (j + 1)) ∧ ∀ y ∈ Q ++ [x], DvIs w y ∧ DvSz y) := Lib.hid ⟨by rw [TK.out, if_pos DF, List.map_append, PQ.out.1, hDD.out, hx]; rfl, fun y hy => by
                    rcases List.mem_append.1 hy with h | h
                    · exact PQ.out.2 y h
                    · rw [List.mem_singleton.1 h, hx]; exact ⟨⟨zeroIs w, IOq.out⟩, SZI, zeroSz, SOq.out⟩⟩
                  clear hx
                  have y0 := cell_of_row w6 g9 0 _ _ _ Xw6.out
                  have y1 := cell_of_row w6 g9 1 _ _ _ Xw6.out
                  have y2 := cell_of_row w6 g9 2 _ _ _ Xw6.out
                  have y3 := cell_of_row w6 g9 3 _ _ _ Xw6.out
                  have y4 := cell_of_row w6 g9 4 _ _ _ Xw6.out
                  have y5 := cell_of_row w6 g9 5 _ _ _ Xw6.out
                  have y6 := cell_of_row w6 g9 6 _ _ _ Xw6.out
                  have y7 := cell_of_row w6 g9 7 _ _ _ Xw6.out
                  have y8 := cell_of_row w6 g9 8 _ _ _ Xw6.out
                  have y9 := cell_of_row w6 g9 9 _ _ _ Xw6.out
                  have y10 := cell_of_row w6 g9 10 _ _ _ Xw6.out
                  have y11 := cell_of_row w6 g9 11 _ _ _ Xw6.out
                  have y12 := cell_of_row w6 g9 12 _ _ _ Xw6.out
                  have y13 := cell_of_row w6 g9 13 _ _ _ Xw6.out
                  have y14 := cell_of_row w6 g9 14 _ _ _ Xw6.out
                  simp at y0 y1 y2 y3 y4 y5 y6 y7 y8 y9 y10 y11 y12 y13 y14
                  have OWx := Lib.hid (own_same OW.out (fun q hq => (Below.block Ow6.out q (OW.out.lt q hq).2)))
                  have bz := Below.size (show OldB Y w6 from OldB.then OB.out Ow6.out)
                  go_wp2_with (at_builtin; refine wpList_appN rfl (.tmp 89) (.tmp 91) 28 rfl Tryz.underlying28 info_dl rfl (by decide) Y.heap.size (.slice A7 Q.length c7) Q.length (dvsC Q) #[.string (mkB id), .bool false, .bool true, .string (mkB []), .int .i64 0, .int .i64 0, .int .i64 0, .slice none 0 0, .slice none 0 0, .string (mkB r2.c.id), .int .i64 r2.c.kind, .int .i64 r2.c.x, .int .i64 r2.c.y, .slice A3 r2.c.refs.length q3, .slice A4 r2.c.tags.length q4] 1 (by decide) rfl (by intro y hy; simp at hy; rcases hy with rfl | rfl | rfl | rfl | rfl | rfl | rfl | rfl | rfl | rfl | rfl | rfl | rfl | rfl | rfl <;> rfl) rfl rfl rfl OWx.out bz (by omega) (by omega) ?_; intro g7 c8 w7 ho7 hg7 hl7 hb7)
                  refine ⟨⟨j + 1, some ⟨g7, 0, none⟩, c8, Q ++ [x], by omega, by go_num, by rw [List.length_append]; rfl, ?_, QX, Lib.hid (Below.trans (show OldB Y w6 from OldB.then OB.out Ow6.out) hb7)⟩, by simp [intOf]; omega⟩
                  rw [List.length_append, dvsC_app, DX.out]
                  exact Lib.hid ho7
              | some y1 =>
                obtain ⟨-, -, zfp⟩ := find_some SR.out hA
                obtain ⟨hpp, hzp⟩ := look_pos SR.out hA
                rw [zfp]
                generalize At.pos (cts l) id = p at *
                have ip1 : (p : Int) < (n : Int) := by have := HN.out; omega
                have ip2 : (0 : Int) ≤ (p : Int) := by omega
                have ip3 : decide ((0 : Int) ≤ (p : Int)) = true := by simp
                have IOp := Lib.hid (HM.out.ob l[p] (List.getElem_mem hpp))
                have SOp := Lib.hid (HM.out.sz l[p] (List.getElem_mem hpp))
                have RCp : Hid (∀ u, Below w.heap.size w u → ∃ b off, A = some ⟨b, off, none⟩ ∧ u.cell? ⟨b, off + p * 6, none⟩ = some (.string (mkB l[p].c.id)) ∧ u.cell? ⟨b, off + p * 6 + 1, none⟩ = some (.int .i64 l[p].c.kind) ∧ u.cell? ⟨b, off + p * 6 + 2, none⟩ = some (.int .i64 l[p].c.x) ∧ u.cell? ⟨b, off + p * 6 + 3, none⟩ = some (.int .i64 l[p].c.y) ∧ u.cell? ⟨b, off + p * 6 + 4, none⟩ = some l[p].rv ∧ u.cell? ⟨b, off + p * 6 + 5, none⟩ = some l[p].tv) := Lib.hid (fun u hu => by
                  obtain ⟨b, off, e, hb, c0, c1, c2, c3, c4, c5⟩ := ros_at (HM.out.rd.below hu) hpp
                  exact ⟨b, off, e, c0, c1, c2, c3, c4, c5⟩)
                obtain ⟨A1, q1, vp1, -⟩ := IOp.out.rs
                obtain ⟨A2, q2, vp2, -⟩ := IOp.out.ts
                generalize l[p] = r1 at *
                subst hzp
                have ROp : Hid (roC r1 = [.string (mkB r1.c.id), .int .i64 r1.c.kind, .int .i64 r1.c.x, .int .i64 r1.c.y, .slice A1 r1.c.refs.length q1, .slice A2 r1.c.tags.length q2]) := Lib.hid (by unfold roC; rw [vp1, vp2])
                have RAp : Hid (roA r1 = .agg #[.string (mkB r1.c.id), .int .i64 r1.c.kind, .int .i64 r1.c.x, .int .i64 r1.c.y, .slice A1 r1.c.refs.length q1, .slice A2 r1.c.tags.length q2]) := Lib.hid (by unfold roA; rw [vp1, vp2])
                rw [vp1, vp2] at RCp
                clear vp1 vp2 zfp
                have Ou4 := OV4
                have Xu4 := XX4
                clear XX4 OV4
                cases hB : At.look (cts l') id with
                | none =>
                  have z2 : findR (cts l') id = -1 := find_none hB
                  rw [z2]
                  have hDD : Hid (dd = (⟨id, true, false, r1.c, At.zeroOb⟩ : At.Dl)) := Lib.hid (by rw [DE.out, hA, hB]; rfl)
                  have DF : At.differs dd = true := by rw [hDD.out]; rfl
                  clear z2 hA hB IN DE
                  go_upto_region 16 with fail
                  obtain ⟨k0, k1, -⟩ := CY.out u4 (OldB.then OB.out Ou4.out)
                  have y1 := cell_of_row u4 g9 1 _ _ _ Xu4.out
                  have yf := free_blk Xu4.out 1
                  simp at y1
                  obtain ⟨w5a, hw5a⟩ : ∃ v, v = u4.setCell ⟨g9, 1, none⟩ (.bool true) := ⟨_, rfl⟩
                  have Xw5a : Hid (w5a.heap[g9]? = some (.cells #[.string (mkB id), .bool true, .bool false, .string (mkB []), .int .i64 0, .int .i64 0, .int .i64 0, .slice none 0 0, .slice none 0 0, .string (mkB []), .int .i64 0, .int .i64 0, .int .i64 0, .slice none 0 0, .slice none 0 0] 45 (0, 0))) := Lib.hid (by rw [hw5a]; have := heap_setCell_same u4 g9 1 _ _ (.bool true) Xu4.out; simpa using this)
                  have Ow5a : Hid (OldB wr w5a) := Lib.hid (by rw [hw5a]; exact Below.setCell Ou4.out (p := ⟨g9, 1, none⟩) (by show wr.heap.size ≤ g9; exact Nat.le_of_eq HG9.out) _)
                  go_upto_region 17 with fail
                  rw [← hw5a]
                  clear hw5a y1 yf k0 k1
                  obtain ⟨k0, k1, BWa⟩ := CY.out w5a (OldB.then OB.out Ow5a.out)
                  obtain ⟨ba, oa, hba, f0, f1, f2, f3, f4, f5⟩ := RCp.out w5a BWa
                  rw [hba] at k0
                  have y3 := cell_of_row w5a g9 3 _ _ _ Xw5a.out
                  have y4 := cell_of_row w5a g9 4 _ _ _ Xw5a.out
                  have y5 := cell_of_row w5a g9 5 _ _ _ Xw5a.out
                  have y6 := cell_of_row w5a g9 6 _ _ _ Xw5a.out
                  have y7 := cell_of_row w5a g9 7 _ _ _ Xw5a.out
                  have y8 := cell_of_row w5a g9 8 _ _ _ Xw5a.out
                  have z3 := free_blk Xw5a.out 3
                  have z4 := free_blk Xw5a.out 4
                  have z5 := free_blk Xw5a.out 5
                  have z6 := free_blk Xw5a.out 6
                  have z7 := free_blk Xw5a.out 7
                  have z8 := free_blk Xw5a.out 8
                  simp at y3 y4 y5 y6 y7 y8
                  obtain ⟨w5, hw5⟩ : ∃ v, v = (((((w5a.setCell ⟨g9, 3, none⟩ (.string (mkB r1.c.id))).setCell ⟨g9, 4, none⟩ (.int .i64 r1.c.kind)).setCell ⟨g9, 5, none⟩ (.int .i64 r1.c.x)).setCell ⟨g9, 6, none⟩ (.int .i64 r1.c.y)).setCell ⟨g9, 7, none⟩ (.slice A1 r1.c.refs.length q1)).setCell ⟨g9, 8, none⟩ (.slice A2 r1.c.tags.length q2) := ⟨_, rfl⟩
                  have Xw5 : Hid (w5.heap[g9]? = some (.cells #[.string (mkB id), .bool true, .bool false, .string (mkB r1.c.id), .int .i64 r1.c.kind, .int .i64 r1.c.x, .int .i64 r1.c.y, .slice A1 r1.c.refs.length q1, .slice A2 r1.c.tags.length q2, .string (mkB []), .int .i64 0, .int .i64 0, .int .i64 0, .slice none 0 0, .slice none 0 0] 45 (0, 0))) := Lib.hid (by rw [hw5]; have := (heap_setCell_same _ g9 8 _ _ (.slice A2 r1.c.tags.length q2) (heap_setCell_same _ g9 7 _ _ (.slice A1 r1.c.refs.length q1) (heap_setCell_same _ g9 6 _ _ (.int .i64 r1.c.y) (heap_setCell_same _ g9 5 _ _ (.int .i64 r1.c.x) (heap_setCell_same _ g9 4 _ _ (.int .i64 r1.c.kind) (heap_setCell_same _ g9 3 _ _ (.string (mkB r1.c.id)) Xw5a.out)))))); simpa using this)
                  have Ow5 : Hid (OldB wr w5) := Lib.hid (by rw [hw5]; exact (Below.setCell ((Below.setCell ((Below.setCell ((Below.setCell ((Below.setCell ((Below.setCell (Ow5a.out) (p := ⟨g9, 3, none⟩) (by show wr.heap.size ≤ g9; exact Nat.le_of_eq HG9.out) _)) (p := ⟨g9, 4, none⟩) (by show wr.heap.size ≤ g9; exact Nat.le_of_eq HG9.out) _)) (p := ⟨g9, 5, none⟩) (by show wr.heap.size ≤ g9; exact Nat.le_of_eq HG9.out) _)) (p := ⟨g9, 6, none⟩) (by show wr.heap.size ≤ g9; exact Nat.le_of_eq HG9.out) _)) (p := ⟨g9, 7, none⟩) (by show wr.heap.size ≤ g9; exact Nat.le_of_eq HG9.out) _)) (p := ⟨g9, 8, none⟩) (by show wr.heap.size ≤ g9; exact Nat.le_of_eq HG9.out) _))
                  go_upto_region 18 with fail
                  rw [← hw5]
                  clear hw5 k0 k1 BWa hba f0 f1 f2 f3 f4 f5 y3 z3 y4 z4 y5 z5 y6 z6 y7 z7 y8 z8
                  have y1 := cell_of_row w5 g9 1 _ _ _ Xw5.out
                  have y2 := cell_of_row w5 g9 2 _ _ _ Xw5.out
                  simp at y1 y2
                  go_upto_region 22 with fail
                  clear y1 y2
                  obtain ⟨x, hx⟩ : ∃ x : DV, x = ⟨id, true, false, r1, zeroRO⟩ := ⟨_, rfl⟩
                  have DX : Hid (dvsC [x] = [.string (mkB id), .bool true, .bool false, .string (mkB r1.c.id), .int .i64 r1.c.kind, .int .i64 r1.c.x, .int .i64 r1.c.y, .slice A1 r1.c.refs.length q1, .slice A2 r1.c.tags.length q2, .string (mkB []), .int .i64 0, .int .i64 0, .int .i64 0, .slice none 0 0, .slice none 0 0]) := Lib.hid (by rw [hx]; unfold dvsC; rw [List.flatMap_singleton]; unfold dvC; rw [ROp.out]; rfl)
                  have QX : Hid ((Q ++ [x]).map DV.d = rdG (cts l) (cts l') ((cts R5).take (j + 1)) ∧ ∀ y ∈ Q ++ [x], DvIs w y ∧ DvSz y) := Lib.hid ⟨by rw [TK.out, if_pos DF, List.map_append, PQ.out.1, hDD.out, hx]; rfl, fun y hy => by
                    rcases List.mem_append.1 hy with h | h
                    · exact PQ.out.2 y h
                    · rw [List.mem_singleton.1 h, hx]; exact ⟨⟨IOp.out, zeroIs w⟩, SZI, SOp.out, zeroSz⟩⟩
                  clear hx
                  have y0 := cell_of_row w5 g9 0 _ _ _ Xw5.out
                  have y1 := cell_of_row w5 g9 1 _ _ _ Xw5.out
                  have y2 := cell_of_row w5 g9 2 _ _ _ Xw5.out
                  have y3 := cell_of_row w5 g9 3 _ _ _ Xw5.out
                  have y4 := cell_of_row w5 g9 4 _ _ _ Xw5.out
                  have y5 := cell_of_row w5 g9 5 _ _ _ Xw5.out
                  have y6 := cell_of_row w5 g9 6 _ _ _ Xw5.out
                  have y7 := cell_of_row w5 g9 7 _ _ _ Xw5.out
                  have y8 := cell_of_row w5 g9 8 _ _ _ Xw5.out
                  have y9 := cell_of_row w5 g9 9 _ _ _ Xw5.out
                  have y10 := cell_of_row w5 g9 10 _ _ _ Xw5.out
                  have y11 := cell_of_row w5 g9 11 _ _ _ Xw5.out
                  have y12 := cell_of_row w5 g9 12 _ _ _ Xw5.out
                  have y13 := cell_of_row w5 g9 13 _ _ _ Xw5.out
                  have y14 := cell_of_row w5 g9 14 _ _ _ Xw5.out
                  simp at y0 y1 y2 y3 y4 y5 y6 y7 y8 y9 y10 y11 y12 y13 y14
                  have OWx := Lib.hid (own_same OW.out (fun q hq => (Below.block Ow5.out q (OW.out.lt q hq).2)))
                  have bz := Below.size (show OldB Y w5 from OldB.then OB.out Ow5.out)
                  go_wp2_with (at_builtin; refine wpList_appN rfl (.tmp 89) (.tmp 91) 28 rfl Tryz.underlying28 info_dl rfl (by decide) Y.heap.size (.slice A7 Q.length c7) Q.length (dvsC Q) #[.string (mkB id), .bool true, .bool false, .string (mkB r1.c.id), .int .i64 r1.c.kind, .int .i64 r1.c.x, .int .i64 r1.c.y, .slice A1 r1.c.refs.length q1, .slice A2 r1.c.tags.length q2, .string (mkB []), .int .i64 0, .int .i64 0, .int .i64 0, .slice none 0 0, .slice none 0 0] 1 (by decide) rfl (by intro y hy; simp at hy; rcases hy with rfl | rfl | rfl | rfl | rfl | rfl | rfl | rfl | rfl | rfl | rfl | rfl | rfl | rfl | rfl <;> rfl) rfl rfl rfl OWx.out bz (by omega) (by omega) ?_; intro g7 c8 w7 ho7 hg7 hl7 hb7)
                  refine ⟨⟨j + 1, some ⟨g7, 0, none⟩, c8, Q ++ [x], by omega, by go_num, by rw [List.length_append]; rfl, ?_, QX, Lib.hid (Below.trans (show OldB Y w5 from OldB.then OB.out Ow5.out) hb7)⟩, by simp [intOf]; omega⟩
                  rw [List.length_append, dvsC_app, DX.out]
                  exact Lib.hid ho7
                | some y2 =>
                  obtain ⟨-, -, zfq⟩ := find_some SR2.out hB
                  obtain ⟨hpq, hzq⟩ := look_pos SR2.out hB
                  rw [zfq]
                  generalize At.pos (cts l') id = q at *
                  have iq1 : (q : Int) < (k : Int) := by have := HN2.out; omega
                  have iq2 : (0 : Int) ≤ (q : Int) := by omega
                  have iq3 : decide ((0 : Int) ≤ (q : Int)) = true := by simp
                  have IOq := Lib.hid (HM2.out.ob l'[q] (List.getElem_mem hpq))
                  have SOq := Lib.hid (HM2.out.sz l'[q] (List.getElem_mem hpq))
                  have RCq : Hid (∀ u, Below w.heap.size w u → ∃ b off, B = some ⟨b, off, none⟩ ∧ u.cell? ⟨b, off + q * 6, none⟩ = some (.string (mkB l'[q].c.id)) ∧ u.cell? ⟨b, off + q * 6 + 1, none⟩ = some (.int .i64 l'[q].c.kind) ∧ u.cell? ⟨b, off + q * 6 + 2, none⟩ = some (.int .i64 l'[q].c.x) ∧ u.cell? ⟨b, off + q * 6 + 3, none⟩ = some (.int .i64 l'[q].c.y) ∧ u.cell? ⟨b, off + q * 6 + 4, none⟩ = some l'[q].rv ∧ u.cell? ⟨b, off + q * 6 + 5, none⟩ = some l'[q].tv) := Lib.hid (fun u hu => by
                    obtain ⟨b, off, e, hb, c0, c1, c2, c3, c4, c5⟩ := ros_at (HM2.out.rd.below hu) hpq
                    exact ⟨b, off, e, c0, c1, c2, c3, c4, c5⟩)
                  obtain ⟨A3, q3, vq1, -⟩ := IOq.out.rs
                  obtain ⟨A4, q4, vq2, -⟩ := IOq.out.ts
                  generalize l'[q] = r2 at *
                  subst hzq
                  have ROq : Hid (roC r2 = [.string (mkB r2.c.id), .int .i64 r2.c.kind, .int .i64 r2.c.x, .int .i64 r2.c.y, .slice A3 r2.c.refs.length q3, .slice A4 r2.c.tags.length q4]) := Lib.hid (by unfold roC; rw [vq1, vq2])
                  have RAq : Hid (roA r2 = .agg #[.string (mkB r2.c.id), .int .i64 r2.c.kind, .int .i64 r2.c.x, .int .i64 r2.c.y, .slice A3 r2.c.refs.length q3, .slice A4 r2.c.tags.length q4]) := Lib.hid (by unfold roA; rw [vq1, vq2])
                  rw [vq1, vq2] at RCq
                  clear vq1 vq2 zfq
                  have hDD : Hid (dd = (⟨id, true, true, r1.c, r2.c⟩ : At.Dl)) := Lib.hid (by rw [DE.out, hA, hB]; rfl)
                  have DFS : At.differs dd = !At.sameO r1.c r2.c := by rw [hDD.out]; unfold At.differs; simp
                  have SMC := Lib.hid (fun (u : World) (hu : Below w.heap.size w u) => rsame_any r1 r2 u (IOp.out.below hu) (IOq.out.below hu) SOp.out.1 SOq.out.1)
                  rw [RAp.out, RAq.out] at SMC
                  clear hA hB IN DE
                  go_upto_region 16 with fail
                  obtain ⟨k0, k1, -⟩ := CY.out u4 (OldB.then OB.out Ou4.out)
                  have y1 := cell_of_row u4 g9 1 _ _ _ Xu4.out
                  have yf := free_blk Xu4.out 1
                  simp at y1
                  obtain ⟨w5a, hw5a⟩ : ∃ v, v = u4.setCell ⟨g9, 1, none⟩ (.bool true) := ⟨_, rfl⟩
                  have Xw5a : Hid (w5a.heap[g9]? = some (.cells #[.string (mkB id), .bool true, .bool false, .string (mkB []), .int .i64 0, .int .i64 0, .int .i64 0, .slice none 0 0, .slice none 0 0, .string (mkB []), .int .i64 0, .int .i64 0, .int .i64 0, .slice none 0 0, .slice none 0 0] 45 (0, 0))) := Lib.hid (by rw [hw5a]; have := heap_setCell_same u4 g9 1 _ _ (.bool true) Xu4.out; simpa using this)
                  have Ow5a : Hid (OldB wr w5a) := Lib.hid (by rw [hw5a]; exact Below.setCell Ou4.out (p := ⟨g9, 1, none⟩) (by show wr.heap.size ≤ g9; exact Nat.le_of_eq HG9.out) _)
                  go_upto_region 17 with fail
                  rw [← hw5a]
                  clear hw5a y1 yf k0 k1
                  obtain ⟨k0, k1, BWa⟩ := CY.out w5a (OldB.then OB.out Ow5a.out)
                  obtain ⟨ba, oa, hba, f0, f1, f2, f3, f4, f5⟩ := RCp.out w5a BWa
                  rw [hba] at k0
                  have y3 := cell_of_row w5a g9 3 _ _ _ Xw5a.out
                  have y4 := cell_of_row w5a g9 4 _ _ _ Xw5a.out
                  have y5 := cell_of_row w5a g9 5 _ _ _ Xw5a.out
                  have y6 := cell_of_row w5a g9 6 _ _ _ Xw5a.out
                  have y7 := cell_of_row w5a g9 7 _ _ _ Xw5a.out
                  have y8 := cell_of_row w5a g9 8 _ _ _ Xw5a.out
                  have z3 := free_blk Xw5a.out 3
                  have z4 := free_blk Xw5a.out 4
                  have z5 := free_blk Xw5a.out 5
                  have z6 := free_blk Xw5a.out 6
                  have z7 := free_blk Xw5a.out 7
                  have z8 := free_blk Xw5a.out 8
                  simp at y3 y4 y5 y6 y7 y8
                  obtain ⟨w5, hw5⟩ : ∃ v, v = (((((w5a.setCell ⟨g9, 3, none⟩ (.string (mkB r1.c.id))).setCell ⟨g9, 4, none⟩ (.int .i64 r1.c.kind)).setCell ⟨g9, 5, none⟩ (.int .i64 r1.c.x)).setCell ⟨g9, 6, none⟩ (.int .i64 r1.c.y)).setCell ⟨g9, 7, none⟩ (.slice A1 r1.c.refs.length q1)).setCell ⟨g9, 8, none⟩ (.slice A2 r1.c.tags.length q2) := ⟨_, rfl⟩
                  have Xw5 : Hid (w5.heap[g9]? = some (.cells #[.string (mkB id), .bool true, .bool false, .string (mkB r1.c.id), .int .i64 r1.c.kind, .int .i64 r1.c.x, .int .i64 r1.c.y, .slice A1 r1.c.refs.length q1, .slice A2 r1.c.tags.length q2, .string (mkB []), .int .i64 0, .int .i64 0, .int .i64 0, .slice none 0 0, .slice none 0 0] 45 (0, 0))) := Lib.hid (by rw [hw5]; have := (heap_setCell_same _ g9 8 _ _ (.slice A2 r1.c.tags.length q2) (heap_setCell_same _ g9 7 _ _ (.slice A1 r1.c.refs.length q1) (heap_setCell_same _ g9 6 _ _ (.int .i64 r1.c.y) (heap_setCell_same _ g9 5 _ _ (.int .i64 r1.c.x) (heap_setCell_same _ g9 4 _ _ (.int .i64 r1.c.kind) (heap_setCell_same _ g9 3 _ _ (.string (mkB r1.c.id)) Xw5a.out)))))); simpa using this)
                  have Ow5 : Hid (OldB wr w5) := Lib.hid (by rw [hw5]; exact (Below.setCell ((Below.setCell ((Below.setCell ((Below.setCell ((Below.setCell ((Below.setCell (Ow5a.out) (p := ⟨g9, 3, none⟩) (by show wr.heap.size ≤ g9; exact Nat.le_of_eq HG9.out) _)) (p := ⟨g9, 4, none⟩) (by show wr.heap.size ≤ g9; exact Nat.le_of_eq HG9.out) _)) (p := ⟨g9, 5, none⟩) (by show wr.heap.size ≤ g9; exact Nat.le_of_eq HG9.out) _)) (p := ⟨g9, 6, none⟩) (by show wr.heap.size ≤ g9; exact Nat.le_of_eq HG9.out) _)) (p := ⟨g9, 7, none⟩) (by show wr.heap.size ≤ g9; exact Nat.le_of_eq HG9.out) _)) (p := ⟨g9, 8, none⟩) (by show wr.heap.size ≤ g9; exact Nat.le_of_eq HG9.out) _))
                  go_upto_region 18 with fail
                  rw [← hw5]
                  clear hw5 k0 k1 BWa hba f0 f1 f2 f3 f4 f5 y3 z3 y4 z4 y5 z5 y6 z6 y7 z7 y8 z8
                  go_upto_region 19 with fail
                  obtain ⟨k0, k1, -⟩ := CY.out w5 (OldB.then OB.out Ow5.out)
                  have y2 := cell_of_row w5 g9 2 _ _ _ Xw5.out
                  have yf := free_blk Xw5.out 2
                  simp at y2
                  obtain ⟨w6a, hw6a⟩ : ∃ v, v = w5.setCell ⟨g9, 2, none⟩ (.bool true) := ⟨_, rfl⟩
                  have Xw6a : Hid (w6a.heap[g9]? = some (.cells #[.string (mkB id), .bool true, .bool true, .string (mkB r1.c.id), .int .i64 r1.c.kind, .int .i64 r1.c.x, .int .i64 r1.c.y, .slice A1 r1.c.refs.length q1, .slice A2 r1.c.tags.length q2, .string (mkB []), .int .i64 0, .int .i64 0, .int .i64 0, .slice none 0 0, .slice none 0 0] 45 (0, 0))) := Lib.hid (by rw [hw6a]; have := heap_setCell_same w5 g9 2 _ _ (.bool true) Xw5.out; simpa using this)
                  have Ow6a : Hid (OldB wr w6a) := Lib.hid (by rw [hw6a]; exact Below.setCell Ow5.out (p := ⟨g9, 2, none⟩) (by show wr.heap.size ≤ g9; exact Nat.le_of_eq HG9.out) _)
                  go_upto_region 20 with fail
                  rw [← hw6a]
                  clear hw6a y2 yf k0 k1
                  obtain ⟨k0, k1, BWa⟩ := CY.out w6a (OldB.then OB.out Ow6a.out)
                  obtain ⟨ba, oa, hba, f0, f1, f2, f3, f4, f5⟩ := RCq.out w6a BWa
                  rw [hba] at k1
                  have y9 := cell_of_row w6a g9 9 _ _ _ Xw6a.out
                  have y10 := cell_of_row w6a g9 10 _ _ _ Xw6a.out
                  have y11 := cell_of_row w6a g9 11 _ _ _ Xw6a.out
                  have y12 := cell_of_row w6a g9 12 _ _ _ Xw6a.out
                  have y13 := cell_of_row w6a g9 13 _ _ _ Xw6a.out
                  have y14 := cell_of_row w6a g9 14 _ _ _ Xw6a.out
                  have z9 := free_blk Xw6a.out 9
                  have z10 := free_blk Xw6a.out 10
                  have z11 := free_blk Xw6a.out 11
                  have z12 := free_blk Xw6a.out 12
                  have z13 := free_blk Xw6a.out 13
                  have z14 := free_blk Xw6a.out 14
                  simp at y9 y10 y11 y12 y13 y14
                  obtain ⟨w6, hw6⟩ : ∃ v, v = (((((w6a.setCell ⟨g9, 9, none⟩ (.string (mkB r2.c.id))).setCell ⟨g9, 10, none⟩ (.int .i64 r2.c.kind)).setCell ⟨g9, 11, none⟩ (.int .i64 r2.c.x)).setCell ⟨g9, 12, none⟩ (.int .i64 r2.c.y)).setCell ⟨g9, 13, none⟩ (.slice A3 r2.c.refs.length q3)).setCell ⟨g9, 14, none⟩ (.slice A4 r2.c.tags.length q4) := ⟨_, rfl⟩
                  have Xw6 : Hid (w6.heap[g9]? = some (.cells #[.string (mkB id), .bool true, .bool true, .string (mkB r1.c.id), .int .i64 r1.c.kind, .int .i64 r1.c.x, .int .i64 r1.c.y, .slice A1 r1.c.refs.length q1, .slice A2 r1.c.tags.length q2, .string (mkB r2.c.id), .int .i64 r2.c.kind, .int .i64 r2.c.x, .int .i64 r2.c.y, .slice A3 r2.c.refs.length q3, .slice A4 r2.c.tags.length q4] 45 (0, 0))) := Lib.hid (by rw [hw6]; have := (heap_setCell_same _ g9 14 _ _ (.slice A4 r2.c.tags.length q4) (heap_setCell_same _ g9 13 _ _ (.slice A3 r2.c.refs.length q3) (heap_setCell_same _ g9 12 _ _ (.int .i64 r2.c.y) (heap_setCell_same _ g9 11 _ _ (.int .i64 r2.c.x) (heap_setCell_same _ g9 10 _ _ (.int .i64 r2.c.kind) (heap_setCell_same _ g9 9 _ _ (.string (mkB r2.c.id)) Xw6a.out)))))); simpa using this)
                  have Ow6 : Hid (OldB wr w6) := Lib.hid (by rw [hw6]; exact (Below.setCell ((Below.setCell ((Below.setCell ((Below.setCell ((Below.setCell ((Below.setCell (Ow6a.out) (p := ⟨g9, 9, none⟩) (by show wr.heap.size ≤ g9; exact Nat.le_of_eq HG9.out) _)) (p := ⟨g9, 10, none⟩) (by show wr.heap.size ≤ g9; exact Nat.le_of_eq HG9.out) _)) (p := ⟨g9, 11, none⟩) (by show wr.heap.size ≤ g9; exact Nat.le_of_eq HG9.out) _)) (p := ⟨g9, 12, none⟩) (by show wr.heap.size ≤ g9; exact Nat.le_of_eq HG9.out) _)) (p := ⟨g9, 13, none⟩) (by show wr.heap.size ≤ g9; exact Nat.le_of_eq HG9.out) _)) (p := ⟨g9, 14, none⟩) (by show wr.heap.size ≤ g9; exact Nat.le_of_eq HG9.out) _))
                  go_upto_region 21 with fail
                  rw [← hw6]
                  clear hw6 k0 k1 BWa hba f0 f1 f2 f3 f4 f5 y9 z9 y10 z10 y11 z11 y12 z12 y13 z13 y14 z14
                  have y1 := cell_of_row w6 g9 1 _ _ _ Xw6.out
                  have y2 := cell_of_row w6 g9 2 _ _ _ Xw6.out
                  have y3 := cell_of_row w6 g9 3 _ _ _ Xw6.out
                  have y4 := cell_of_row w6 g9 4 _ _ _ Xw6.out
                  have y5 := cell_of_row w6 g9 5 _ _ _ Xw6.out
                  have y6 := cell_of_row w6 g9 6 _ _ _ Xw6.out
                  have y7 := cell_of_row w6 g9 7 _ _ _ Xw6.out
                  have y8 := cell_of_row w6 g9 8 _ _ _ Xw6.out
                  have y9 := cell_of_row w6 g9 9 _ _ _ Xw6.out
                  have y10 := cell_of_row w6 g9 10 _ _ _ Xw6.out
                  have y11 := cell_of_row w6 g9 11 _ _ _ Xw6.out
                  have y12 := cell_of_row w6 g9 12 _ _ _ Xw6.out
                  have y13 := cell_of_row w6 g9 13 _ _ _ Xw6.out
                  have y14 := cell_of_row w6 g9 14 _ _ _ Xw6.out
                  simp at y1 y2 y3 y4 y5 y6 y7 y8 y9 y10 y11 y12 y13 y14
                  go_wp2_with fail
                  refine (SMC.out _ (CY.out w6 (OldB.then OB.out Ow6.out)).2.2).mono ?_
                  rintro e u7 ⟨rfl, b7⟩
                  have Xu7 := Lib.hid ((Below.block b7 g9 (lt_of_block' Xw6.out)).trans Xw6.out)
                  have Ou7 := Lib.hid (show OldB wr u7 from OldB.then Ow6.out b7)
                  clear b7 SMC y1 y2 y3 y4 y5 y6 y7 y8 y9 y10 y11 y12 y13 y14
                  cases hsm : At.sameO r1.c r2.c with
                  | true =>
                    have DF : At.differs dd = false := by rw [DFS, hsm]; rfl
                    have QX : Hid (Q.map DV.d = rdG (cts l) (cts l') ((cts R5).take (j + 1)) ∧ ∀ y ∈ Q, DvIs w y ∧ DvSz y) := Lib.hid ⟨by rw [TK.out, DF, PQ.out.1]; simp, PQ.out.2⟩
                    have OWx := Lib.hid (own_same OW.out (fun q hq => (Below.block Ou7.out q (OW.out.lt q hq).2)))
                    clear hsm DFS
                    go_wp2_with fail
                    exact ⟨⟨j + 1, A7, c7, Q, by omega, by go_num, rfl, OWx, QX, Lib.hid (OldB.then OB.out Ou7.out)⟩, by simp [intOf]; omega⟩
                  | false =>
                    have DF : At.differs dd = true := by rw [DFS, hsm]; rfl
                    clear hsm DFS
                    go_upto_region 22 with fail
                    obtain ⟨x, hx⟩ : ∃ x : DV, x = ⟨id, true, true, r1, r2⟩ := ⟨_, rfl⟩
                    have DX : Hid (dvsC [x] = [.string (mkB id), .bool true, .bool true, .string (mkB r1.c.id), .int .i64 r1.c.kind, .int .i64 r1.c.x, .int .i64 r1.c.y, .slice A1 r1.c.refs.length q1, .slice A2 r1.c.tags.length q2, .string (mkB r2.c.id), .int .i64 r2.c.kind, .int .i64 r2.c.x, .int .i64 r2.c.y, .slice A3 r2.c.refs.length q3, .slice A4 r2.c.tags.length q4]) := Lib.hid (by rw [hx]; unfold dvsC; rw [List.flatMap_singleton]; unfold dvC; rw [ROp.out, ROq.out]; rfl)
                    have QX : Hid ((Q ++ [x]).map DV.d = rdG (cts l) (cts l') ((cts R5).take (j + 1)) ∧ ∀ y ∈ Q ++ [x], DvIs w y ∧ DvSz y) := Lib.hid ⟨by rw [TK.out, if_pos DF, List.map_append, PQ.out.1, hDD.out, hx]; rfl, fun y hy => by
                      rcases List.mem_append.1 hy with h | h
                      · exact PQ.out.2 y h
                      · rw [List.mem_singleton.1 h, hx]; exact ⟨⟨IOp.out, IOq.out⟩, SZI, SOp.out, SOq.out⟩⟩
                    clear hx
                    have y0 := cell_of_row u7 g9 0 _ _ _ Xu7.out
                    have y1 := cell_of_row u7 g9 1 _ _ _ Xu7.out
                    have y2 := cell_of_row u7 g9 2 _ _ _ Xu7.out
                    have y3 := cell_of_row u7 g9 3 _ _ _ Xu7.out
                    have y4 := cell_of_row u7 g9 4 _ _ _ Xu7.out
                    have y5 := cell_of_row u7 g9 5 _ _ _ Xu7.out
                    have y6 := cell_of_row u7 g9 6 _ _ _ Xu7.out
                    have y7 := cell_of_row u7 g9 7 _ _ _ Xu7.out
                    have y8 := cell_of_row u7 g9 8 _ _ _ Xu7.out
                    have y9 := cell_of_row u7 g9 9 _ _ _ Xu7.out
                    have y10 := cell_of_row u7 g9 10 _ _ _ Xu7.out
                    have y11 := cell_of_row u7 g9 11 _ _ _ Xu7.out
                    have y12 := cell_of_row u7 g9 12 _ _ _ Xu7.out
                    have y13 := cell_of_row u7 g9 13 _ _ _ Xu7.out
                    have y14 := cell_of_row u7 g9 14 _ _ _ Xu7.out
                    simp at y0 y1 y2 y3 y4 y5 y6 y7 y8 y9 y10 y11 y12 y13 y14
                    have OWx := Lib.hid (own_same OW.out (fun q hq => (Below.block Ou7.out q (OW.out.lt q hq).2)))
                    have bz := Below.size (show OldB Y u7 from OldB.then OB.out Ou7.out)
                    go_wp2_with (at_builtin; refine wpList_appN rfl (.tmp 89) (.tmp 91) 28 rfl Tryz.underlying28 info_dl rfl (by decide) Y.heap.size (.slice A7 Q.length c7) Q.length (dvsC Q) #[.string (mkB id), .bool true, .bool true, .string (mkB r1.c.id), .int .i64 r1.c.kind, .int .i64 r1.c.x, .int .i64 r1.c.y, .slice A1 r1.c.refs.length q1, .slice A2 r1.c.tags.length q2, .string (mkB r2.c.id), .int .i64 r2.c.kind, .int .i64 r2.c.x, .int .i64 r2.c.y, .slice A3 r2.c.refs.length q3, .slice A4 r2.c.tags.length q4] 1 (by decide) rfl (by intro y hy; simp at hy; rcases hy with rfl | rfl | rfl | rfl | rfl | rfl | rfl | rfl | rfl | rfl | rfl | rfl | rfl | rfl | rfl <;> rfl) rfl rfl rfl OWx.out bz (by omega) (by omega) ?_; intro g7 c8 w7 ho7 hg7 hl7 hb7)
                    refine ⟨⟨j + 1, some ⟨g7, 0, none⟩, c8, Q ++ [x], by omega, by go_num, by rw [List.length_append]; rfl, ?_, QX, Lib.hid (Below.trans (show OldB Y u7 from OldB.then OB.out Ou7.out) hb7)⟩, by simp [intOf]; omega⟩
                    rw [List.length_append, dvsC_app, DX.out]
                    exact Lib.hid ho7
            · obtain rfl : j = N := by omega
              have dk : decide ((j : Int) < (j : Int)) = false := by simp
              have TT : (cts R5).take j = cts R5 := List.take_of_length_le (by rw [cts_len, HNN.out]; exact Nat.le_refl _)
              have PF : Hid (PP = Q.map DV.d ∧ ∀ y ∈ Q, DvIs w y ∧ DvSz y) := Lib.hid ⟨by rw [PE2.out, PQ.out.1, TT], PQ.out.2⟩
              have RQ : Hid (Rd wr A7 (dvsC Q)) := Lib.hid (by obtain ⟨A9, c9, e9, r9⟩ := own_sl OW.out; injection e9 with h1 h2 h3; rw [h1]; exact r9)
              have CQ : Hid (Q.length ≤ c7) := Lib.hid (own_capD OW.out)
              clear hlt TT PQ OW
              go_wp2_with fail
              go_ret
              rw [PF.out.1]
              exact ⟨A7, c7, Q, rfl, RQ.out, PF.out.2, rfl, CQ.out, BW.out⟩
end Go.Proofs.YtlejeelmlclnkaaGreatDoor
