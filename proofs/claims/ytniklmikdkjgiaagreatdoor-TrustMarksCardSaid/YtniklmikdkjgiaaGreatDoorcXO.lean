import Derived.Test.YtniklmikdkjgiaaGreatDoorcXJ
import Derived.BigGuard
import Derived.BigCall
set_option linter.all false
set_option maxHeartbeats 16000000
set_option maxRecDepth 100000
namespace Go.Proofs.YtniklmikdkjgiaaGreatDoor
open Go.RowKit
def mainT : Tx := [109, 97, 105, 110]
theorem es_nil (w : World) : Es w none [] := ⟨Rd.nil_ _ _, (fun _ h => by cases h), (fun _ h => by cases h), (fun _ h => by cases h), by decide⟩
theorem sl_nil (w : World) : SlIs w (.slice none 0 0) 0 [] := ⟨none, 0, rfl, Rd.nil_ _ _⟩
end Go.Proofs.YtniklmikdkjgiaaGreatDoor
namespace Go.Proofs.YtniklmikdkjgiaaGreatDoor
open Go.RowKit
theorem Rd.pfx {w : World} {A : Option Addr} {xs ys : List Value} (h : Rd w A xs) (hp : ys <+: xs) : Rd w A ys := fun h0 => by
  obtain ⟨t, rfl⟩ := hp
  obtain ⟨b, off, e, hb, hc⟩ := h (by rw [List.length_append]; omega)
  exact ⟨b, off, e, hb, fun i u hu => hc i u (by rw [List.getElem?_append_left (List.getElem?_eq_some_iff.1 hu).1]; exact hu)⟩
theorem Rs.take {w : World} {A : Option Addr} {l : List RV} (h : Rs w A l) (k : Nat) : Rs w A (l.take k) :=
  ⟨h.rd.pfx ⟨rvsL (l.drop k), by rw [← rvsL_app, List.take_append_drop]⟩, fun r hr => h.is r (List.mem_of_mem_take hr), fun r hr => h.sz r (List.mem_of_mem_take hr), by rw [List.length_take]; have := h.len; omega⟩
theorem own_empty21 (w : World) {cs : Array Value} (hcs : cs = #[]) (t : TypeId) : (w.alloc (.cells cs t)).ownsRow w.heap.size t 21 (.slice (some ⟨w.heap.size, 0, none⟩) 0 0) 0 (rvsL []) := by
  subst hcs
  exact ⟨rfl, .inr ⟨w.heap.size, 0, #[], rfl, Nat.le_refl _, heap_alloc_new w _, Nat.le_refl _, by simp [maxLen], by simp, by simp [rvsL]⟩⟩
end Go.Proofs.YtniklmikdkjgiaaGreatDoor
