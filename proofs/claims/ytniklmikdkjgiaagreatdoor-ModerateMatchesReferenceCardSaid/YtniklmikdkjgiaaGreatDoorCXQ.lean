import Derived.Test.YtniklmikdkjgiaaGreatDoorCXH
import Derived.Deep.RegionHeld
import Derived.Great.BuildSlice
set_option linter.all false
set_option maxHeartbeats 16000000
set_option maxRecDepth 100000
namespace Go.Proofs.YtniklmikdkjgiaaGreatDoor
open Go.RowKit
structure AddI (b B : Nat) (w0 : World) (o0 : Option Nat) (v : Value) (l : List Tx) (w : World) : Prop where
 box : w.heap[b]? = some (.cells #[v] 103 (0, 0))
 own : w.ownsRow B 9 1 v l.length (strsC l)
 ne : v.ownBlock ≠ some b
 blk : v.ownBlock = o0 ∨ ∀ g, v.ownBlock = some g → w0.heap.size ≤ g
 os : w.os = w0.os
 tape : w.tape = w0.tape
 output : w.output = w0.output
 size : w0.heap.size ≤ w.heap.size
 kp : ∀ k, k < w0.heap.size → k ≠ b → o0 ≠ some k → w.heap[k]? = w0.heap[k]?
def AddE (b B : Nat) (w0 : World) (o0 : Option Nat) (l : List Tx) (w : World) : Prop := ∃ v, AddI b B w0 o0 v l w
theorem AddI.call {b B : Nat} {w0 w w' : World} {o0 : Option Nat} {v : Value} {l : List Tx} (h : AddI b B w0 o0 v l w) (k : Below w.heap.size w w') : AddI b B w0 o0 v l w' :=
 ⟨(k.block b (lt_of_block h.box)).trans h.box, own_below h.own k (Nat.le_refl _), h.ne, h.blk, k.os.trans h.os, k.tape.trans h.tape, k.output.trans h.output, Nat.le_trans h.size k.size, fun q hq h1 h2 => (k.block q (Nat.lt_of_lt_of_le hq h.size)).trans (h.kp q hq h1 h2)⟩
theorem AddI.trans {b B : Nat} {w0 w w' : World} {o0 : Option Nat} {v : Value} {l l' : List Tx} (h : AddI b B w0 o0 v l w) (k : AddE b B w v.ownBlock l' w') : AddE b B w0 o0 l' w' := by
 obtain ⟨v', k⟩ := k
 have nb : ∀ q, q < w0.heap.size → o0 ≠ some q → v.ownBlock ≠ some q := fun q hq h2 e => by
  rcases h.blk with hb | hb
  ·exact h2 (hb.symm.trans e)
  ·have := hb q e; omega
 refine ⟨v', k.box, k.own, k.ne, ?_, k.os.trans h.os, k.tape.trans h.tape, k.output.trans h.output, Nat.le_trans h.size k.size, fun q hq h1 h2 => (k.kp q (Nat.lt_of_lt_of_le hq h.size) h1 (nb q hq h2)).trans (h.kp q hq h1 h2)⟩
 rcases k.blk with hb | hb
 ·rcases h.blk with hc | hc
  ·exact .inl (hb.trans hc)
  ·exact .inr (fun g hg => hc g (hb.symm.trans hg))
 ·exact .inr (fun g hg => Nat.le_trans h.size (hb g hg))
def Rd2 (w : World) (b : Nat) (o0 : Option Nat) (A : Option Addr) (xs : List Value) : Prop := 0 < xs.length → ∃ g off, A = some ⟨g, off, none⟩ ∧ g < w.heap.size ∧ g ≠ b ∧ o0 ≠ some g ∧ ∀ i u, xs[i]? = some u → w.cell? ⟨g, off + i, none⟩ = some u
theorem AddI.rd {b B : Nat} {w0 w : World} {o0 : Option Nat} {v : Value} {l : List Tx} {A : Option Addr} {xs : List Value} (h : AddI b B w0 o0 v l w) (k : Rd2 w0 b o0 A xs) : Rd w A xs := fun h0 => by
 obtain ⟨g, off, e, hg, h1, h2, hc⟩ := k h0
 exact ⟨g, off, e, Nat.lt_of_lt_of_le hg h.size, fun i u hu => (cell_same (p := ⟨g, off + i, none⟩) (h.kp g hg h1 h2)).trans (hc i u hu)⟩
theorem wp_appF {P : Program} {o : Oper} {a : Act} {K : Act → World → Prop} {Q : Exit → Act → World → Prop} {w : World} (s x : Operand) (t : TypeId)
  (ho : o.op = .call { callee := .builtin .append, args := #[s, x], argTypes := #[t, t] }) {e : TypeId} {z : Value} {size bytes : Nat}
  (ht : P.underlying t = some (.slice e)) (hinfo : (P.info? e).map (fun i => (i.zero, i.size, i.bytes)) = some (some z, size, bytes)) (hzs : z.cells.size = size) (hsz : 0 < size)
  (base : Nat) (v : Value) (n : Nat) (xs : List Value) (A : Option Addr) (m c : Nat) (news : List Value) (h1 : ∀ u ∈ news, u.oneCell' = true)
  (hs : a.eval s = v) (hx : a.eval x = .slice A m c) (hown : w.ownsRow base e size v n xs) (hr : Rd w A news) (hm : news.length = m * size) (hb : base ≤ w.heap.size)
  (hbytes : (n + m) * bytes ≤ 140737488355328) (hmax : n + m ≤ 9223372036854775807)
  (h : ∀ v' w', w'.ownsRow base e size v' (n + m) (xs ++ news) → w.grownBy w' v.ownBlock → (v'.ownBlock = v.ownBlock ∨ v'.ownBlock = some w.heap.size) → K (a.put o.dst v') w') : Oper.wp P o a w K Q := by
 obtain ⟨i, hi, hz, hsi, hby⟩ := info_parts hinfo
 have fin : ∀ v' w', (Builtin.append_ #[t, t] o.type #[v, .slice A m c]).run P w = .ok v' w' → w'.ownsRow base e size v' (n + m) (xs ++ news) → w.grownBy w' v.ownBlock → (v'.ownBlock = v.ownBlock ∨ v'.ownBlock = some w.heap.size) → Oper.wp P o a w K Q := by
  intro v' w' hrun ho' hg hq
  have hK := h v' w' ho' hg hq
  unfold Oper.wp execOp
  simp only [ho, resolve, invoke, builtin, Sem.run_bind, Sem.run_pure, Result.andThen_ok, List.map_toArray, List.map_cons, List.map_nil, hs, hx, hrun]
  exact hK
 cases A with
 | none =>
  have h0 : m = 0 := by
   rcases Nat.eq_zero_or_pos m with h0 | h0
   ·exact h0
   ·obtain ⟨b, off, e, _⟩ := hr (by rw [hm]; exact Nat.mul_pos h0 hsz); cases e
  have hn0 : news = [] := List.eq_nil_of_length_eq_zero (by rw [hm, h0]; simp)
  subst h0 hn0
  exact fin v w (run_append_none_ w ht hi hown c) (by simpa using hown) (World.grownBy.refl _ _) (.inl rfl)
 | some ad =>
  obtain ⟨v', w', h2, h3, h4, -, h5⟩ := run_append_own_at (P := P) w base t o.type e i z size bytes ht hi hz hsi hby hzs hsz v n xs hown ad m c news hm (fun j u hu => by
   have hj := (List.getElem?_eq_some_iff.1 hu).1
   obtain ⟨b, off, e, _, hc⟩ := hr (by omega)
   injection e with e
   subst e
   rw [Addr.add_lit]
   exact hc j u hu) h1 (by simpa [maxLen] using hmax) hbytes hb
  exact fin v' w' h2 h3 h4 h5
end Go.Proofs.YtniklmikdkjgiaaGreatDoor
namespace Go.Proofs.YtniklmikdkjgiaaGreatDoor
open Go.RowKit
end Go.Proofs.YtniklmikdkjgiaaGreatDoor
namespace Go.Proofs.YtniklmikdkjgiaaGreatDoor
open Go.RowKit
end Go.Proofs.YtniklmikdkjgiaaGreatDoor
namespace Go.Proofs.YtniklmikdkjgiaaGreatDoor
open Go.RowKit
end Go.Proofs.YtniklmikdkjgiaaGreatDoor
