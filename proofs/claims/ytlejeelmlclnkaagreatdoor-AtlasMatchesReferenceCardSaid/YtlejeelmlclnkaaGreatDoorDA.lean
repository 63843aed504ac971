/- WALKS: the law's node; its head's plain facts. -/
import Derived.Test.YtlejeelmlclnkaaGreatDoorCJ
import Derived.Test.YtlejeelmlclnkaaGreatDoorCH
import Derived.Test.YtlejeelmlclnkaaGreatDoorCG
set_option linter.unusedSimpArgs false
set_option linter.unusedVariables false
namespace Go.Proofs.YtlejeelmlclnkaaGreatDoor
open Go.RowKit

def nodeO (id : Tx) (x y : Int) : At.Ob := ⟨id, 1, x, y, [], []⟩
def nodeR (id : Tx) (x y : Int) : RO := ⟨nodeO id x y, .slice none 0 0, .slice none 0 0⟩
theorem nodeIs (id : Tx) (x y : Int) (w : World) : ObIs w (nodeR id x y) := ⟨⟨none, 0, rfl, Rd.nil_ _ _⟩, ⟨none, 0, rfl, Rd.nil_ _ _⟩⟩
theorem nodeSz (id : Tx) (x y : Int) (h : id.length ≤ 1000000) : ObSz (nodeR id x y).c ∧ (nodeR id x y).c.refs.length ≤ 100000 := ⟨⟨h, by simp [nodeR, nodeO], by simp [nodeR, nodeO], by simp [nodeR, nodeO], by simp [nodeR, nodeO]⟩, by simp [nodeR, nodeO]⟩
set_option maxHeartbeats 1000000 in
theorem node_any (id : Tx) (x y : Int) (w : World) :
    Calls Tryz.prog 46 #[.string (mkB id), .int .i64 x, .int .i64 y] w fun e w' => e = .returned (roA (nodeR id x y)) ∧ Below w.heap.size w w' := by
  go_enter Tryz.func46, Tryz.ntmps46
  go_wp2_with fail
  refine bodyPost_ret (results_cell1 (i := 6) rfl rfl (run_loadVar_row _ w.heap.size _ 43 #[.string (mkB id), .int .i64 1, .int .i64 x, .int .i64 y, .slice none 0 0, .slice none 0 0] (0, 0) _ (heap_alloc_new w _) Tryz.underlying43 rfl (by kernel_rfl))) rfl ?_
  exact ⟨rfl, (Below.refl _ _).alloc (Nat.le_refl _) _⟩
/-- a map that lies in a box -/
structure Live (w : World) (g : Nat) (A : Option Addr) (c : Nat) (R : List RO) : Prop where
  box : w.heap[g]? = some (.cells #[.slice A R.length c] 24 (0, 0))
  ms : Ms w A R
  cap : R.length ≤ c
theorem Live.below {w w' : World} {g : Nat} {A : Option Addr} {c : Nat} {R : List RO} (h : Live w g A c R) (hb : Below w.heap.size w w') : Live w' g A c R :=
  ⟨(hb.block g (Array.getElem?_eq_some_iff.1 h.box).1).trans h.box, h.ms.below hb, h.cap⟩
theorem Live.cell {w : World} {g : Nat} {A : Option Addr} {c : Nat} {R : List RO} (h : Live w g A c R) : w.cell? ⟨g, 0, none⟩ = some (.slice A R.length c) := by
  have := cell_of_row w g 0 _ _ _ h.box; simpa using this
theorem Live.new {w : World} {A : Option Addr} {c : Nat} {R : List RO} (hM : Ms w A R) (hc : R.length ≤ c) : Live (w.alloc (.cells #[.slice A R.length c] 24)) w.heap.size A c R :=
  ⟨heap_alloc_new w _, hM.below ((Below.refl _ _).alloc (Nat.le_refl _) _), hc⟩
theorem OldB.alloc {W w : World} (h : OldB W w) (o : Obj) : OldB W (w.alloc o) := Below.alloc h (Below.size h) o
theorem lt_of_block' {z : World} {X : Obj} {p : Nat} (h : z.heap[p]? = some X) : p < z.heap.size := (Array.getElem?_eq_some_iff.1 h).1
theorem box_new {W z : World} {cs : Array Value} {T : TypeId} (_ : OldB W (z.alloc (.cells cs T))) : (z.alloc (.cells cs T)).heap[z.heap.size]? = some (.cells cs T (0, 0)) := heap_alloc_new z _
theorem box_newD {W z : World} {cs : Array Value} {T : TypeId} (_ : OldB W (z.alloc (.cells cs T)).drew) : (z.alloc (.cells cs T)).drew.heap[z.heap.size]? = some (.cells cs T (0, 0)) := heap_alloc_new z _
theorem box_keep {W z : World} {o X : Obj} {p : Nat} (_ : OldB W (z.alloc o)) (h : z.heap[p]? = some X) : (z.alloc o).heap[p]? = some X := (alloc_old _ _ (lt_of_block' h)).trans h
theorem OldB.set {W w : World} (h : OldB W w) {p : Nat} (hp : W.heap.size ≤ p) (i : Nat) (v : Value) : OldB W (w.setCell ⟨p, i, none⟩ v) := Below.setCell h hp v
/-- a store into a box of one slice leaves what reads as a list that begins with no slice -/
theorem Rd.setBox {w : World} {A : Option Addr} {xs : List Value} {p : Nat} {A0 : Option Addr} {n0 c0 : Nat} {T : TypeId} (h : Rd w A xs) (hb : w.heap[p]? = some (.cells #[.slice A0 n0 c0] T (0, 0))) (hx : ∀ a n c, xs[0]? ≠ some (.slice a n c)) (v : Value) : Rd (w.setCell ⟨p, 0, none⟩ v) A xs := by
  intro hpos
  obtain ⟨b, off, e, hlt, hc⟩ := h hpos
  have hne : b ≠ p := by
    rintro rfl
    obtain ⟨x0, hx0⟩ : ∃ x0, xs[0]? = some x0 := ⟨xs[0], List.getElem?_eq_getElem hpos⟩
    have := hc 0 x0 hx0
    rw [Nat.add_zero, cell_of_row w b off _ _ _ hb] at this
    cases off with
    | zero =>
      have e2 : Value.slice A0 n0 c0 = x0 := by simpa using this
      exact hx A0 n0 c0 (by rw [hx0, e2])
    | succ k => simp at this
  refine ⟨b, off, e, by rw [World.size_setCell]; exact hlt, fun j u hu => ?_⟩
  exact (World.cell?_of_block (w := w) (Below.heap_setCell w ⟨p, 0, none⟩ v b (by exact hne))).trans (hc j u hu)
theorem ObIs.setBox {w : World} {r : RO} {p : Nat} {A0 : Option Addr} {n0 c0 : Nat} {T : TypeId} (h : ObIs w r) (hb : w.heap[p]? = some (.cells #[.slice A0 n0 c0] T (0, 0))) (v : Value) : ObIs (w.setCell ⟨p, 0, none⟩ v) r := by
  obtain ⟨⟨A1, q1, v1, r1⟩, ⟨A2, q2, v2, r2⟩⟩ := h
  refine ⟨⟨A1, q1, v1, r1.setBox hb (fun a n c => ?_) v⟩, ⟨A2, q2, v2, r2.setBox hb (fun a n c => ?_) v⟩⟩
  · cases r.c.refs with
    | nil => simp [strsC]
    | cons x l => simp [strsC]
  · cases r.c.tags with
    | nil => simp [tagsC]
    | cons x l => simp [tagsC, tagC]
theorem Ms.setBox {w : World} {A : Option Addr} {l : List RO} {p : Nat} {A0 : Option Addr} {n0 c0 : Nat} {T : TypeId} (h : Ms w A l) (hb : w.heap[p]? = some (.cells #[.slice A0 n0 c0] T (0, 0))) (v : Value) : Ms (w.setCell ⟨p, 0, none⟩ v) A l :=
  ⟨h.rd.setBox hb (fun a n c => by cases l with
    | nil => simp [rosC]
    | cons x l => simp [rosC, roC]) v, fun r hr => (h.ob r hr).setBox hb v, h.sz, h.len⟩
/-- the box's own new map -/
theorem Live.set {w : World} {p : Nat} {A0 : Option Addr} {n0 c0 : Nat} {A : Option Addr} {c : Nat} {R : List RO} (hb : w.heap[p]? = some (.cells #[.slice A0 n0 c0] 24 (0, 0))) (hM : Ms w A R) (hc : R.length ≤ c) : Live (w.setCell ⟨p, 0, none⟩ (.slice A R.length c)) p A c R :=
  ⟨one_setCell hb, hM.setBox hb _, hc⟩
/-- another box's map -/
theorem Live.other {w : World} {g p : Nat} {A0 : Option Addr} {n0 c0 : Nat} {A : Option Addr} {c : Nat} {R : List RO} (h : Live w g A c R) (hb : w.heap[p]? = some (.cells #[.slice A0 n0 c0] 24 (0, 0))) (hne : g ≠ p) (v : Value) : Live (w.setCell ⟨p, 0, none⟩ v) g A c R :=
  ⟨(Below.heap_setCell _ _ _ _ (by exact hne)).trans h.box, h.ms.setBox hb _, h.cap⟩
theorem Live.drew {w : World} {g : Nat} {A : Option Addr} {c : Nat} {R : List RO} (h : Live w g A c R) : Live w.drew g A c R := h.below (Below.drew (Below.refl _ _))
def hA : At.Ob := nodeO [97] 1 2
def hB : At.Ob := nodeO [98] 5 6
def hC : At.Ob := nodeO [99] 3 4
def hW : At.Ob := ⟨[119], 2, 0, 0, [[97], [99]], []⟩
def hX : At.Ob := ⟨[119], 2, 0, 0, [[97], [120]], []⟩
theorem hd1 : putM [] hA = ([hA], 0) := by kernel_rfl
theorem hd2 : putM [hA] hC = ([hA, hC], 0) := by kernel_rfl
theorem hd3 : putM [hA, hC] hB = ([hA, hB, hC], 0) := by kernel_rfl
theorem hd4 : dropM [hA, hB, hC] [98] = ([hA, hC], 0) := by kernel_rfl
theorem hd5 : At.diffF [hA, hB, hC] [hA, hC] = [⟨[98], true, false, hB, At.zeroOb⟩] := by kernel_rfl
theorem hd6 : putM [hA, hB, hC] hW = ([hA, hB, hC, hW], 0) := by kernel_rfl
theorem hd7 : putM [hA, hB, hC] hX = ([hA, hB, hC, hX], 0) := by kernel_rfl
theorem hd8 : pointsM [hA, hB, hC, hW] [119] = ([(1, 2), (3, 4)], 0) := by kernel_rfl
theorem hd9 : pointsM [hA, hB, hC, hX] [119] = ([], 14) := by kernel_rfl
theorem hd10 : At.patchF [hA, hC] [⟨[98], false, true, At.zeroOb, hB⟩] = ([hA, hB, hC], 0) := by kernel_rfl
theorem hd11 : refersM [hA, hB, hC, hW] [99] = [[119]] := by kernel_rfl
theorem hd12 : At.validM [hA, hB, hC, hW] = true := by kernel_rfl
theorem hd13 : Dg.isD (digestM [hA, hB, hC, hW]) = true := by
  unfold digestM; rw [hd12, if_pos rfl]; exact Dg.sumL_isD _
end Go.Proofs.YtlejeelmlclnkaaGreatDoor
