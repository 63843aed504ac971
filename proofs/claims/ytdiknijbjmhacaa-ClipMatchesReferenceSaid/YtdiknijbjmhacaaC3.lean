/- WALKS: clip: the limits of a segment's parameter. -/
import Derived.Test.YtdiknijbjmhacaaC2
set_option linter.unusedSimpArgs false
set_option linter.unusedVariables false
namespace Go.Proofs.Ytdiknijbjmhacaa
open Go.RowKit

/-- some blocks alone have turned; new ones may be there -/
structure But (X : Nat → Prop) (w w' : World) : Prop where
  os : w'.os = w.os
  tape : w'.tape = w.tape
  output : w'.output = w.output
  size : w.heap.size ≤ w'.heap.size
  block : ∀ k, k < w.heap.size → ¬ X k → w'.heap[k]? = w.heap[k]?
theorem But.below {X : Nat → Prop} {w w' : World} {B : Nat} (h : But X w w') (hB : B ≤ w.heap.size) (hX : ∀ k, X k → B ≤ k) : Below B w w' :=
  ⟨h.os, h.tape, h.output, h.size, fun k hk => h.block k (by omega) (fun hx => by have := hX k hx; omega)⟩
theorem But.refl (X : Nat → Prop) (w : World) : But X w w := ⟨rfl, rfl, rfl, Nat.le_refl _, fun _ _ _ => rfl⟩
theorem But.trans {X : Nat → Prop} {a b c : World} (h : But X a b) (k : But X b c) : But X a c :=
  ⟨k.os.trans h.os, k.tape.trans h.tape, k.output.trans h.output, Nat.le_trans h.size k.size, fun i hi hx => (k.block i (Nat.lt_of_lt_of_le hi h.size) hx).trans (h.block i hi hx)⟩
theorem But.of_below {X : Nat → Prop} {a b : World} (h : Below a.heap.size a b) : But X a b := ⟨h.os, h.tape, h.output, h.size, fun k hk _ => h.block k hk⟩
theorem But.set {X : Nat → Prop} {a b : World} (h : But X a b) {p : Addr} (hp : X p.block) (u : Value) : But X a (b.setCell p u) :=
  ⟨h.os, h.tape, h.output, by simpa using h.size, fun k hk hx => (Below.heap_setCell b p u k (fun e => hx (e ▸ hp))).trans (h.block k hk hx)⟩
theorem But.setN {X : Nat → Prop} {a b : World} (h : But X a b) {p : Addr} (hp : a.heap.size ≤ p.block) (u : Value) : But X a (b.setCell p u) :=
  ⟨h.os, h.tape, h.output, by simpa using h.size, fun k hk hx => (Below.heap_setCell b p u k (fun e => by omega)).trans (h.block k hk hx)⟩
theorem But.alloc {X : Nat → Prop} {a b : World} (h : But X a b) (o : Obj) : But X a (b.alloc o) := h.trans (But.of_below ((Below.refl _ _).alloc (Nat.le_refl _) o))
theorem But.drewN {X : Nat → Prop} {a b : World} (h : But X a b) (n : Nat) : But X a (b.drewN n) := ⟨h.os, h.tape, h.output, h.size, h.block⟩

/-- the three variables of a piece -/
structure Vars (w : World) (gl gh go : Nat) (s : Cl.St) : Prop where
  low : w.heap[gl]? = some (.cells #[.int .i64 s.low.n, .int .i64 s.low.d] 60 (0, 0))
  high : w.heap[gh]? = some (.cells #[.int .i64 s.high.n, .int .i64 s.high.d] 60 (0, 0))
  ok : w.heap[go]? = some (.cells #[.bool s.ok] 4 (0, 0))
theorem Vars.keep {w w' : World} {gl gh go : Nat} {s : Cl.St} (h : Vars w gl gh go s) {B : Nat} (hb : Below B w w') (h1 : gl < B) (h2 : gh < B) (h3 : go < B) : Vars w' gl gh go s :=
  ⟨(hb.block _ h1).trans h.low, (hb.block _ h2).trans h.high, (hb.block _ h3).trans h.ok⟩
theorem Vars.low_c {w : World} {gl gh go : Nat} {s : Cl.St} (h : Vars w gl gh go s) : w.cell? ⟨gl, 0, none⟩ = some (.int .i64 s.low.n) ∧ w.cell? ⟨gl, 1, none⟩ = some (.int .i64 s.low.d) :=
  ⟨cell_of_row w gl 0 _ _ _ h.low, cell_of_row w gl 1 _ _ _ h.low⟩
theorem Vars.high_c {w : World} {gl gh go : Nat} {s : Cl.St} (h : Vars w gl gh go s) : w.cell? ⟨gh, 0, none⟩ = some (.int .i64 s.high.n) ∧ w.cell? ⟨gh, 1, none⟩ = some (.int .i64 s.high.d) :=
  ⟨cell_of_row w gh 0 _ _ _ h.high, cell_of_row w gh 1 _ _ _ h.high⟩
theorem Vars.ok_c {w : World} {gl gh go : Nat} {s : Cl.St} (h : Vars w gl gh go s) : w.cell? ⟨go, 0, none⟩ = some (.bool s.ok) := cell_of_one h.ok
theorem Vars.free {w : World} {gl gh go : Nat} {s : Cl.St} (h : Vars w gl gh go s) (i : Nat) : w.frozen? ⟨gl, i, none⟩ = false ∧ w.frozen? ⟨gh, i, none⟩ = false ∧ w.frozen? ⟨go, i, none⟩ = false := by
  simp [World.frozen?, h.low, h.high, h.ok]
theorem Vars.lt {w : World} {gl gh go : Nat} {s : Cl.St} (h : Vars w gl gh go s) : gl < w.heap.size ∧ gh < w.heap.size ∧ go < w.heap.size := ⟨lt_of_block h.low, lt_of_block h.high, lt_of_block h.ok⟩
theorem Vars.set_ok {w : World} {gl gh go : Nat} {s : Cl.St} (h : Vars w gl gh go s) (n1 : gl ≠ go) (n2 : gh ≠ go) (b : Bool) : Vars (w.setCell ⟨go, 0, none⟩ (.bool b)) gl gh go ⟨s.low, s.high, b⟩ :=
  ⟨(Below.heap_setCell _ _ _ _ n1).trans h.low, (Below.heap_setCell _ _ _ _ n2).trans h.high, by simp [World.setCell, Array.getElem?_modify, h.ok]⟩
theorem Vars.set_low {w : World} {gl gh go : Nat} {s : Cl.St} (h : Vars w gl gh go s) (n1 : go ≠ gl) (n2 : gh ≠ gl) (r : Cl.Rt) : Vars ((w.setCell ⟨gl, 0, none⟩ (.int .i64 r.n)).setCell ⟨gl, 1, none⟩ (.int .i64 r.d)) gl gh go ⟨r, s.high, s.ok⟩ :=
  ⟨by simp [World.setCell, Array.getElem?_modify, h.low], ((Below.heap_setCell _ _ _ _ n2).trans (Below.heap_setCell _ _ _ _ n2)).trans h.high, ((Below.heap_setCell _ _ _ _ n1).trans (Below.heap_setCell _ _ _ _ n1)).trans h.ok⟩
theorem Vars.set_high {w : World} {gl gh go : Nat} {s : Cl.St} (h : Vars w gl gh go s) (n1 : go ≠ gh) (n2 : gl ≠ gh) (r : Cl.Rt) : Vars ((w.setCell ⟨gh, 0, none⟩ (.int .i64 r.n)).setCell ⟨gh, 1, none⟩ (.int .i64 r.d)) gl gh go ⟨s.low, r, s.ok⟩ :=
  ⟨((Below.heap_setCell _ _ _ _ n2).trans (Below.heap_setCell _ _ _ _ n2)).trans h.low, by simp [World.setCell, Array.getElem?_modify, h.high], ((Below.heap_setCell _ _ _ _ n1).trans (Below.heap_setCell _ _ _ _ n1)).trans h.ok⟩

def X3 (gl gh go : Nat) (k : Nat) : Prop := k = gl ∨ k = gh ∨ k = go

theorem bound_zero (f lo hi : Int) (s : Cl.St) (gl gh go : Nat) (w : World) (hv : Vars w gl gh go s) (n1 : gl ≠ gh) (n2 : gl ≠ go) (n3 : gh ≠ go) :
    Calls Try.prog 47 #[.int .i64 f, .int .i64 0, .int .i64 lo, .int .i64 hi, .pointer (some ⟨go, 0, none⟩), .pointer (some ⟨gl, 0, none⟩), .pointer (some ⟨gh, 0, none⟩)] w
      fun e w' => e = .returned (.tuple #[]) ∧ Vars w' gl gh go (Cl.bnd f 0 lo hi s) ∧ But (X3 gl gh go) w w' := by
  have hok := hv.ok_c
  have hf := (hv.free 0).2.2
  have HV := Lib.hid hv; clear hv
  have fin : ∀ b, b = (s.ok && decide (lo ≤ f) && decide (f ≤ hi)) → Vars (w.setCell ⟨go, 0, none⟩ (.bool b)) gl gh go (Cl.bnd f 0 lo hi s) ∧ But (X3 gl gh go) w (w.setCell ⟨go, 0, none⟩ (.bool b)) := by
    intro b hb
    have := HV.out.set_ok n2 n3 b
    refine ⟨?_, (But.refl _ _).set (.inr (.inr rfl)) _⟩
    unfold Cl.bnd
    rw [if_pos rfl, ← hb]; exact this
  have HF := Lib.hid fin; clear fin
  rcases hs : s.ok with _ | _
  · have HE : Hid (false = (s.ok && decide (lo ≤ f) && decide (f ≤ hi))) := Lib.hid (by simp [hs])
    rw [hs] at hok
    clear hs
    go_enter Try.func47, Try.ntmps47
    go_wp2
    refine bodyPost_ret (results_none (by rfl) _ _ _) rfl ?_
    exact ⟨rfl, HF.out _ HE.out⟩
  · rw [hs] at hok
    by_cases h1 : lo ≤ f
    · have h1' : decide (lo ≤ f) = true := by simpa using h1
      have HE : Hid (decide (f ≤ hi) = (s.ok && decide (lo ≤ f) && decide (f ≤ hi))) := Lib.hid (by simp [hs, h1])
      clear h1 hs
      go_enter Try.func47, Try.ntmps47
      go_wp2
      refine bodyPost_ret (results_none (by rfl) _ _ _) rfl ?_
      exact ⟨rfl, HF.out _ HE.out⟩
    · have h1' : decide (lo ≤ f) = false := by simpa using h1
      have HE : Hid (false = (s.ok && decide (lo ≤ f) && decide (f ≤ hi))) := Lib.hid (by simp [hs, h1])
      clear h1 hs
      go_enter Try.func47, Try.ntmps47
      go_wp2
      refine bodyPost_ret (results_none (by rfl) _ _ _) rfl ?_
      exact ⟨rfl, HF.out _ HE.out⟩
end Go.Proofs.Ytdiknijbjmhacaa
