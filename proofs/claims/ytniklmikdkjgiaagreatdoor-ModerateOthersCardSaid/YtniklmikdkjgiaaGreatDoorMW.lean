/- WORDS: a world as an argument (Start Keys Moderators Need Views Rules: 6 cells). -/
import Derived.Test.YtniklmikdkjgiaaGreatDoorXP
set_option linter.unusedSimpArgs false
set_option linter.unusedVariables false
namespace Go.Proofs.YtniklmikdkjgiaaGreatDoor
open Go.RowKit Go.ChangeShapes Go.WideShapes Go.Deep

def AnySl (v : Value) : Prop := ∃ A n c, v = .slice A n c
structure WoV where
  st : Value
  keys : List Tx
  kv : Value
  mods : List Int
  mv : Value
  need : Int
  vv : Value
  rv : Value
def woL (x : WoV) : List Value := [x.st, x.kv, x.mv, .int .i64 x.need, x.vv, x.rv]
def woA (x : WoV) : Value := .agg (woL x).toArray
structure WoIs (w : World) (x : WoV) : Prop where
  st : AnySl x.st
  ks : SlIs w x.kv x.keys.length (strsC x.keys)
  ms : SlIs w x.mv x.mods.length (intsL x.mods)
  vv : AnySl x.vv
  rv : AnySl x.rv
  kz : ∀ s ∈ x.keys, s.length ≤ 9223372036854775807
  kl : x.keys.length ≤ 9223372036854775807
  ml : x.mods.length ≤ 9223372036854775807
theorem WoIs.below {w w' : World} {x : WoV} (h : WoIs w x) (hb : Below w.heap.size w w') : WoIs w' x := ⟨h.st, h.ks.below hb, h.ms.below hb, h.vv, h.rv, h.kz, h.kl, h.ml⟩
theorem woL_one {w : World} {x : WoV} (h : WoIs w x) : (woL x).toArray.all (·.oneCell') = true := by
  obtain ⟨A0, n0, c0, e0⟩ := h.st
  obtain ⟨A1, c1, e1, -⟩ := h.ks
  obtain ⟨A2, c2, e2, -⟩ := h.ms
  obtain ⟨A3, n3, c3, e3⟩ := h.vv
  obtain ⟨A4, n4, c4, e4⟩ := h.rv
  unfold woL
  rw [e0, e1, e2, e3, e4]
  simp [Value.oneCell']
section
variable {H : Type} {enc : TypeId × Value → H} {w : World} {base : Nat} {held : Bool}
theorem sl_any {t e : TypeId} (ht : Tryz.prog.underlying t = some (.slice e)) {fuel : Nat} {v : Value} {x : DataW H × List MemPlace} (h : DataW.trod enc Tryz.prog w base (fun _ => true) held fuel t [v] = some x) : AnySl v := by
  rcases open_slice ht h with ⟨hcs, rfl⟩ | ⟨a, len, cap, m, n, D, Pl, hcs, -⟩
  · cases hcs; exact ⟨_, _, _, rfl⟩
  · cases hcs; exact ⟨_, _, _, rfl⟩
theorem ints_flat (l : List Int) : (l.flatMap fun s => [Value.int .i64 s]) = intsL l := by
  induction l with
  | nil => rfl
  | cons x l ih => rw [List.flatMap_cons, ih]; rfl
theorem ints_open {fuel : Nat} {v : Value} {x : DataW H × List MemPlace} (h : DataW.trod enc Tryz.prog w base (fun _ => true) held fuel 26 [v] = some x) (hw : Wt 26 x.1) : ∃ l : List Int, SlIs w v l.length (intsL l) ∧ l.length ≤ 9223372036854775807 := by
  obtain ⟨A, c, l, rfl, h0, h3, h1, -⟩ := slice_open (fun s : Int => [.int .i64 s]) (fun _ => True) 1 (by decide) (fun _ => rfl) 0 Tryz.underlying26 (by kernel_rfl) (fun _ _ _ h _ => by obtain ⟨s, e, _⟩ := DataW.trod_int Tryz.underlying3 h; exact ⟨s, e, trivial⟩) h hw
  rw [ints_flat] at h1
  exact ⟨l, ⟨A, c, rfl, h1⟩, Nat.le_trans h0 (by simpa [maxLen] using h3)⟩
theorem strs_openZ {fuel : Nat} {v : Value} {x : DataW H × List MemPlace} (h : DataW.trod enc Tryz.prog w base (fun _ => true) held fuel 35 [v] = some x) (hw : Wt 35 x.1) : ∃ l : List Tx, SlIs w v l.length (strsC l) ∧ (∀ s ∈ l, s.length ≤ 9223372036854775807) ∧ l.length ≤ 9223372036854775807 := by
  obtain ⟨A, c, l, rfl, h0, h3, h1, h2⟩ := slice_open (fun s : Tx => [.string (mkB s)]) (fun s => s.length ≤ 9223372036854775807) 1 (by decide) (fun _ => rfl) [] Tryz.underlying35 (by kernel_rfl) (fun _ _ _ h _ => str_open h) h hw
  rw [strs_flat] at h1
  exact ⟨l, ⟨A, c, rfl, h1⟩, h2, Nat.le_trans h0 (by simpa [maxLen] using h3)⟩
set_option maxRecDepth 100000 in
theorem world_openC {fuel : Nat} {cs : List Value} {x : DataW H × List MemPlace} (h : DataW.trod enc Tryz.prog w base (fun _ => true) held fuel 38 cs = some x) (hw : Wt 38 x.1) : ∃ o : WoV, cs = woL o ∧ WoIs w o := by
  obtain ⟨ys, n, _, rfl, hl, hyl, hf⟩ := DataW.trod_struct Tryz.underlying38 h
  have hc : Tryz.prog.cellsOf 38 = 6 := by kernel_rfl
  have hm : Tryz.prog.cellsOf 34 = 1 := by kernel_rfl
  have ho : Tryz.prog.cellsOf 32 = 1 := by kernel_rfl
  have hs : Tryz.prog.cellsOf 35 = 1 := by kernel_rfl
  have hi : Tryz.prog.cellsOf 3 = 1 := by kernel_rfl
  have hj : Tryz.prog.cellsOf 26 = 1 := by kernel_rfl
  have hr : Tryz.prog.cellsOf 36 = 1 := by kernel_rfl
  rw [hc] at hl
  match cs, hl, ys, hyl with
  | [c0, c1, c2, c3, c4, c5], _, [y0, y1, y2, y3, y4, y5], _ =>
    have h0 := hf 0 _ rfl
    have h1 := hf 1 _ rfl
    have h2 := hf 2 _ rfl
    have h3 := hf 3 _ rfl
    have h4 := hf 4 _ rfl
    have h5 := hf 5 _ rfl
    simp only [hm, hs, hi, hj, hr, List.drop_zero, List.take_succ_cons, List.take_zero, List.drop_succ_cons, List.getElem?_cons_zero, List.getElem?_cons_succ] at h0 h1 h2 h3 h4 h5
    obtain ⟨zs, m, _, e0, hl2, hzl, hf2⟩ := DataW.trod_struct Tryz.underlying34 h0
    match zs, hzl with
    | [z0], _ =>
      have k0 := hf2 0 _ rfl
      simp only [ho, List.drop_zero, List.take_succ_cons, List.take_zero, List.drop_succ_cons, List.getElem?_cons_zero, List.getElem?_cons_succ] at k0
      have a0 := sl_any Tryz.underlying32 k0
      obtain ⟨ks, r1, r1z, r1l⟩ := strs_openZ h1 (wt_field Tryz.underlying38 hw (j := 1) rfl rfl)
      obtain ⟨ms, r2, r2l⟩ := ints_open h2 (wt_field Tryz.underlying38 hw (j := 2) rfl rfl)
      obtain ⟨nd, e3, _, _⟩ := DataW.trod_int Tryz.underlying3 h3
      have a4 := sl_any Tryz.underlying35 h4
      have a5 := sl_any Tryz.underlying36 h5
      cases e3
      exact ⟨⟨c0, ks, c1, ms, c2, nd, c4, c5⟩, rfl, a0, r1, r2, a4, a5, r1z, r1l, r2l⟩
set_option maxRecDepth 100000 in
theorem world_open {r : Reach} {b0 : Nat} {v : Value} {d : DataW H} {p : List MemPlace} (hv : Value.okWide Tryz.prog w r b0 38 v) (h : DataW.Trod enc Tryz.prog w base (fun _ => true) held 38 v d p) (hw : Wt 38 d) :
    ∃ o : WoV, v = woA o ∧ WoIs w o := by
  obtain ⟨cs, rfl, hcs⟩ := okWide_struct Tryz.underlying38 hv
  obtain ⟨fuel, hf⟩ := h
  obtain ⟨o, e, h1⟩ := world_openC hf hw
  have e2 : cs = (woL o).toArray := by simpa [Value.cells] using congrArg List.toArray e
  exact ⟨o, by rw [e2]; rfl, h1⟩
end
end Go.Proofs.YtniklmikdkjgiaaGreatDoor
