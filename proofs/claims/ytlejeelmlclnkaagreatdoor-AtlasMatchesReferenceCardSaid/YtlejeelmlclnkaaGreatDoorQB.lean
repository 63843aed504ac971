/- WORDS FOR MEMORY: all but some blocks; new blocks. No program is spoken of here. -/
import Derived.Test.YtlejeelmlclnkaaGreatDoorMem
set_option linter.unusedSimpArgs false
set_option linter.unusedVariables false
namespace Go.Proofs.YtlejeelmlclnkaaGreatDoor
open Go.RowKit

structure But (X : Nat → Prop) (w w' : World) : Prop where
  os : w'.os = w.os
  tape : w'.tape = w.tape
  output : w'.output = w.output
  size : w.heap.size ≤ w'.heap.size
  block : ∀ k, k < w.heap.size → ¬ X k → w'.heap[k]? = w.heap[k]?
theorem But.below {X : Nat → Prop} {w w' : World} {B : Nat} (h : But X w w') (hB : B ≤ w.heap.size) (hX : ∀ k, X k → B ≤ k) : Below B w w' :=
  ⟨h.os, h.tape, h.output, h.size, fun k hk => h.block k (by omega) (fun hx => by have := hX k hx; omega)⟩
theorem But.refl (X : Nat → Prop) (w : World) : But X w w := ⟨rfl, rfl, rfl, Nat.le_refl _, fun _ _ _ => rfl⟩
theorem But.trans {X : Nat → Prop} {a b c : World} (h : But X a b) (k : But X b c) : But X a c :=
  ⟨k.os.trans h.os, k.tape.trans h.tape, k.output.trans h.output, Nat.le_trans h.size k.size, fun i hi hx => (k.block i (Nat.lt_of_lt_of_le hi h.size) hx).trans (h.block i hi hx)⟩
theorem But.of_below {X : Nat → Prop} {a b : World} (h : Below a.heap.size a b) : But X a b := ⟨h.os, h.tape, h.output, h.size, fun k hk _ => h.block k hk⟩
theorem But.set {X : Nat → Prop} {a b : World} (h : But X a b) {p : Addr} (hp : X p.block) (u : Value) : But X a (b.setCell p u) :=
  ⟨h.os, h.tape, h.output, by simpa using h.size, fun k hk hx => (Below.heap_setCell b p u k (fun e => hx (e ▸ hp))).trans (h.block k hk hx)⟩
theorem But.setN {X : Nat → Prop} {a b : World} (h : But X a b) {p : Addr} (hp : a.heap.size ≤ p.block) (u : Value) : But X a (b.setCell p u) :=
  ⟨h.os, h.tape, h.output, by simpa using h.size, fun k hk hx => (Below.heap_setCell b p u k (fun e => by omega)).trans (h.block k hk hx)⟩
theorem But.alloc {X : Nat → Prop} {a b : World} (h : But X a b) (o : Obj) : But X a (b.alloc o) := h.trans (But.of_below ((Below.refl _ _).alloc (Nat.le_refl _) o))
theorem But.drewN {X : Nat → Prop} {a b : World} (h : But X a b) (n : Nat) : But X a (b.drewN n) := ⟨h.os, h.tape, h.output, h.size, h.block⟩

theorem alloc_old (w : World) (o : Obj) {k : Nat} (h : k < w.heap.size) : (w.alloc o).heap[k]? = w.heap[k]? := ((Below.refl _ _).alloc (Nat.le_refl _) o).block k h
theorem alloc_new' (w : World) (cs : Array Value) (t : TypeId) {k : Nat} (h : k = w.heap.size) : (w.alloc (.cells cs t)).heap[k]? = some (.cells cs t (0, 0)) := by subst h; exact heap_alloc_new w _
theorem free_blk {w : World} {g : Nat} {cs : Array Value} {t : TypeId} (h : w.heap[g]? = some (.cells cs t (0, 0))) (i : Nat) : w.frozen? ⟨g, i, none⟩ = false := by simp [World.frozen?, h]

theorem But.c {X : Nat → Prop} {W0 w : World} (h : But X W0 w) {b o : Nat} {v : Value} (hx : ¬ X b) (hc : W0.cell? ⟨b, o, none⟩ = some v) : w.cell? ⟨b, o, none⟩ = some v :=
  (cell_same (p := ⟨b, o, none⟩) (h.block b (World.block_lt_of_cell? _ _ hc) hx)).trans hc
theorem But.drew {X : Nat → Prop} {a b : World} (h : But X a b) : But X a b.drew := ⟨h.os, h.tape, h.output, h.size, h.block⟩
end Go.Proofs.YtlejeelmlclnkaaGreatDoor
