import Derived.Test.YtniklmikdkjgiaaGreatDoorCXJ
import Derived.BigGuard
import Derived.BigCall
set_option linter.all false
set_option maxHeartbeats 16000000
set_option maxRecDepth 100000
namespace Go.Proofs.YtniklmikdkjgiaaGreatDoor
open Go.RowKit
def mainT : Tx := [109, 97, 105, 110]
theorem es_nil (w : World) : Es w none [] := ⟨Rd.nil_ _ _, (fun _ h => by cases h), (fun _ h => by cases h), (fun _ h => by cases h), by decide⟩
theorem sl_nil (w : World) : SlIs w (.slice none 0 0) 0 [] := ⟨none, 0, rfl, Rd.nil_ _ _⟩
theorem Rs.old {w u : World} {A : Option Addr} {L : List RV} (h : Rs w A L) (hu : OldB w u) : Rs u A L := h.below hu
end Go.Proofs.YtniklmikdkjgiaaGreatDoor
namespace Go.Proofs.YtniklmikdkjgiaaGreatDoor
open Go.RowKit
theorem wpList_appRS {P : Program} {ops : Array Oper} {rest : List Oper} {o : Oper} {a : Act} {Q : Exit → Act → World → Prop} {w : World} (hgd : o.guard = none) (s x : Operand) (t : TypeId)
  (ho : o.op = .call { callee := .builtin .append, args := #[s, x], argTypes := #[t, t] }) {e : TypeId} {z : Value} {size bytes : Nat}
  (ht : P.underlying t = some (.slice e)) (hinfo : (P.info? e).map (fun i => (i.zero, i.size, i.bytes)) = some (some z, size, bytes)) (hzs : z.cells.size = size) (hsz : 0 < size)
  (base : Nat) (v : Value) (n : Nat) (xs : List Value) (A : Option Addr) (m c : Nat) (news : List Value) (h1 : ∀ u ∈ news, u.oneCell' = true)
  (hs : a.eval s = v) (hx : a.eval x = .slice A m c) (hown : w.ownsRow base e size v n xs) (hr : Rd w A news) (hm : news.length = m * size) (hb : base ≤ w.heap.size)
  (hbytes : (n + m) * bytes ≤ 140737488355328) (hmax : n + m ≤ 9223372036854775807)
  (h : ∀ v' w', w'.ownsRow base e size v' (n + m) (xs ++ news) → Below base w w' → w.grownBy w' v.ownBlock → wpList P ops Q rest (a.put o.dst v') w') :
  wpList P ops Q (o :: rest) a w := by
 obtain ⟨i, hi, hz, hsi, hby⟩ := info_parts hinfo
 have nil_case : m = 0 → news = [] := fun h0 => List.eq_nil_of_length_eq_zero (by rw [hm, h0]; simp)
 cases A with
 | none =>
  have h0 : m = 0 := by
   rcases Nat.eq_zero_or_pos m with h0 | h0
   ·exact h0
   ·obtain ⟨b, off, e, _⟩ := hr (by rw [hm]; exact Nat.mul_pos h0 hsz); cases e
  obtain rfl := nil_case h0
  subst h0
  refine wpList_plain hgd fun K hK => ?_
  have hrun := run_append_none_ (P := P) w (ty := o.type) ht hi hown c
  unfold Oper.wp execOp
  simp only [ho, resolve, invoke, builtin, Sem.run_bind, Sem.run_pure, Result.andThen_ok, List.map_toArray, List.map_cons, List.map_nil, hs, hx, hrun]
  exact hK _ _ (h v w (by simpa using hown) (Below.refl _ _) (World.grownBy.refl _ _))
 | some ad =>
  refine wpList_append_own _ hgd s x t ho base e i z size bytes ht hi hz hsi hby hzs hsz v n xs hs hown ad m c news hx (by omega) ?_ h1 (by simpa [maxLen] using hmax) hbytes hb ?_
  ·intro j u hu
   have hj := (List.getElem?_eq_some_iff.1 hu).1
   obtain ⟨b, off, e, _, hc⟩ := hr (by omega)
   cases e
   rw [Addr.add_lit]
   exact hc j u hu
  ·intro v' w' hown' hg _
   exact h v' w' hown' (grown_below hg (fun k hk => (hown.lt k hk).1) hb) hg
theorem Rd.pfx {w : World} {A : Option Addr} {xs ys : List Value} (h : Rd w A xs) (hp : ys <+: xs) : Rd w A ys := fun h0 => by
 obtain ⟨t, rfl⟩ := hp
 obtain ⟨b, off, e, hb, hc⟩ := h (by rw [List.length_append]; omega)
 exact ⟨b, off, e, hb, fun i u hu => hc i u (by rw [List.getElem?_append_left (List.getElem?_eq_some_iff.1 hu).1]; exact hu)⟩
theorem Rs.take {w : World} {A : Option Addr} {l : List RV} (h : Rs w A l) (k : Nat) : Rs w A (l.take k) :=
 ⟨h.rd.pfx ⟨rvsL (l.drop k), by rw [← rvsL_app, List.take_append_drop]⟩, fun r hr => h.is r (List.mem_of_mem_take hr), fun r hr => h.sz r (List.mem_of_mem_take hr), by rw [List.length_take]; have := h.len; omega⟩
end Go.Proofs.YtniklmikdkjgiaaGreatDoor
