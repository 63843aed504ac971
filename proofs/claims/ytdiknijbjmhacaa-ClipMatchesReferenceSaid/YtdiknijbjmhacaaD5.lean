/- WALKS: points backwards. -/
import Derived.Test.YtdiknijbjmhacaaD4
set_option linter.unusedSimpArgs false
set_option linter.unusedVariables false
namespace Go.Proofs.Ytdiknijbjmhacaa
open Go.RowKit

theorem back_step {l : List Cl.Pt} {m : Nat} (h : m < l.length) : (l.drop m).reverse = (l.drop (m + 1)).reverse ++ [l[m]] := by
  rw [List.drop_eq_getElem_cons h, List.reverse_cons]
set_option maxHeartbeats 1600000 in
theorem back_any (A : Option Addr) (c : Nat) (l : List Cl.Pt) (w : World) (hl : l.length ≤ 1000000) (h : Rp w A l) :
    Calls Try.prog 24 #[.slice A l.length c] w fun e w' => ∃ v : Value, e = .returned v ∧ w'.ownsRow w.heap.size 24 2 v l.reverse.length (l.reverse.flatMap ptCells) ∧ Below w.heap.size w w' := by
  have H := Lib.hid h; clear h
  go_enter Try.func24, Try.ntmps24
  go_wp2
  go_loopw [3, 4] (fun v i wr => ∃ m : Nat, m ≤ l.length ∧ i = .int .i64 ((m : Int) - 1) ∧ Hid (wr.ownsRow w.heap.size 24 2 v (l.drop m).reverse.length ((l.drop m).reverse.flatMap ptCells)) ∧ Hid (Below w.heap.size w wr)) (fun _ i _ => (intOf i + 1).toNat)
  case atStart => exact ⟨l.length, Nat.le_refl _, rfl, by rw [List.drop_of_length_le (Nat.le_refl _)]; exact World.ownsRow_nil _ _ _ _, Below.refl _ _⟩
  case round =>
    obtain ⟨m, hm, rfl, hown, hbel⟩ := hrel
    rcases m with _ | m
    · rw [show ((0 : Nat) : Int) - 1 = -1 by omega]
      go_wp2
      go_ret
      exact ⟨_, rfl, by have := hown.out; rwa [List.drop_zero] at this, hbel.out⟩
    · rw [show ((m + 1 : Nat) : Int) - 1 = (m : Int) by omega]
      have hlt : m < l.length := hm
      have hsz : w.heap.size ≤ wr.heap.size := hbel.out.size
      have hcl : (l.drop (m + 1)).reverse.length ≤ 1000000 := by simp; omega
      obtain ⟨b, off, rfl, hb, hc0, hc1⟩ := (H.out.below hbel.out).at_ hlt
      obtain ⟨x, hx⟩ : ∃ x, x = l[m].1 := ⟨_, rfl⟩
      obtain ⟨y, hy⟩ : ∃ y, y = l[m].2 := ⟨_, rfl⟩
      rw [← hx] at hc0; rw [← hy] at hc1
      have HX := Lib.hid hx; have HY := Lib.hid hy; clear hx hy
      have HS := Lib.hid (back_step hlt)
      go_wp2_with (at_builtin; refine wpList_app1 rfl (.tmp 12) (.tmp 17) 22 rfl Try.underlying22 info_pt rfl (by decide) w.heap.size _ _ _ _ _ rfl (by simp [Value.oneCell']) rfl rfl (by simp) (by exact hown.out) hsz (by omega) (by omega) ?_; intro v1 w1 hown1 hb1)
      refine ⟨⟨m, by omega, by go_num, ?_, Lib.hid (hbel.out.trans hb1)⟩, by simp [intOf]⟩
      show w1.ownsRow _ _ _ _ _ _
      rw [HS.out, List.length_append, List.flatMap_append]
      simp only [List.flatMap_cons, List.flatMap_nil, ptCells, List.append_nil, List.length_singleton]
      rw [← HX.out, ← HY.out]
      simpa using hown1
end Go.Proofs.Ytdiknijbjmhacaa
