/- WALKS: the law's points; comparing parts. -/
import Derived.Test.YtdiknijbjmhacaaF5
import Derived.Test.YtdiknijbjmhacaaG0
import Derived.Test.YtdiknijbjmhacaaD3
set_option linter.unusedSimpArgs false
set_option linter.unusedVariables false
namespace Go.Proofs.Ytdiknijbjmhacaa
open Go.RowKit
attribute [local go_sem ↓] Go.wp_at_zero Go.wp_at_succ

theorem drop_take_pt {ps : List Cl.Pt} {k : Nat} (h : k < ps.length) : ps.take (k + 1) = ps.take k ++ [ps[k]] := List.take_succ_eq_append_getElem h
set_option maxHeartbeats 1600000 in
theorem points_any (A : Option Addr) (m c : Nat) (ps : List Cl.Pt) (w : World) (hm : m = ps.length * 2) (hl : ps.length ≤ 1000) (h : Rp w A ps) :
    Calls Try.prog 25 #[.slice A m c] w fun e w' => ∃ v : Value, e = .returned v ∧ w'.ownsRow w.heap.size 24 2 v ps.length (ps.flatMap ptCells) ∧ Below w.heap.size w w' := by
  have H := Lib.hid h; clear h
  have HM := Lib.hid hm
  have hm2 : m ≤ 2000 := by omega
  clear hm
  go_enter Try.func25, Try.ntmps25
  go_wp2
  go_loopw [3, 4] (fun v i wr => ∃ i' k : Nat, k ≤ ps.length ∧ i = .int .i64 i' ∧ Hid (i' = k * 2) ∧ Hid (wr.ownsRow w.heap.size 24 2 v k ((ps.take k).flatMap ptCells)) ∧ Hid (Below w.heap.size w wr)) (fun _ i _ => m - (intOf i).toNat)
  case atStart => exact ⟨0, 0, Nat.zero_le _, rfl, rfl, World.ownsRow_nil _ _ _ _, Below.refl _ _⟩
  case round =>
    obtain ⟨i, k, hk, rfl, hik, hown, hbel⟩ := hrel
    by_cases hlt : k < ps.length
    · obtain ⟨b, off, rfl, hb, hc0, hc1⟩ := H.out.at_ hlt
      have hsz : w.heap.size ≤ wr.heap.size := hbel.out.size
      have him : i + 1 < m := by have := hik.out; have := HM.out; omega
      rw [show k * 2 = i from hik.out.symm] at hc0 hc1
      rw [Nat.add_assoc] at hc1
      obtain ⟨x, hx⟩ : ∃ x, x = ps[k].1 := ⟨_, rfl⟩
      obtain ⟨y, hy⟩ : ∃ y, y = ps[k].2 := ⟨_, rfl⟩
      rw [← hx] at hc0; rw [← hy] at hc1
      have NEXT : Hid (∀ (v1 : Value) (w1 : World), w1.ownsRow w.heap.size 24 2 v1 (k + 1) ((ps.take k).flatMap ptCells ++ [.int .i64 x, .int .i64 y]) → w1.ownsRow w.heap.size 24 2 v1 (k + 1) ((ps.take (k + 1)).flatMap ptCells)) := Lib.hid (fun v1 w1 h => by
        rw [drop_take_pt hlt, List.flatMap_append]
        rw [hx, hy] at h
        simpa [ptCells] using h)
      clear hx hy
      have i1 : (0 : Int) ≤ (i : Int) + 1 := by omega
      have i2 : ((i : Int) + 1).toNat = i + 1 := by omega
      have i3 : IntKind.i64.wrap ((i : Int) + 1) = (i : Int) + 1 := IntWalk.i64_in _ (by omega)
      have i4 : (i : Int) + 1 < (m : Int) := by omega
      have i5 : i < m := by omega
      go_wp2_with fail
      have C0 : ∀ w', OldOf w w' → w'.cell? ⟨b, off + i, none⟩ = some (.int .i64 x) := fun w' h => h.c (by exact hc0)
      have C1 : ∀ w', OldOf w w' → w'.cell? ⟨b, off + (i + 1), none⟩ = some (.int .i64 y) := fun w' h => h.c (by exact hc1)
      have o0 : OldOf w wr.drew := Below.drew hbel.out
      clear hc0 hc1
      go_region_held3 (fun w' => OldOf w w') (first | assumption | exact OldOf.alloc (by assumption) _) ((refine step_appB rfl (.tmp 12) (.tmp 23) 22 rfl Try.underlying22 info_pt rfl (by decide) w.heap.size u3 k 1 ((ps.take k).flatMap ptCells) wr.drew #[.int .i64 x, .int .i64 y] rfl (by simp [Value.oneCell']) rfl rfl rfl (by exact hown.out) hsz (by omega) (by omega) (by decide) ?_; intro A1 c1 w1 hown1 hb1 hg1; have o1 : OldOf w w1 := Below.trans o0 hb1))
      go_wp2_with fail
      refine ⟨⟨i + 2, k + 1, by omega, by go_num, Lib.hid (by have := hik.out; omega), Lib.hid (NEXT.out _ _ hown1), Lib.hid o1⟩, by simp [intOf]; omega⟩
    · have he : Hid (ps.take k = ps) := Lib.hid (by rw [List.take_of_length_le (by omega)])
      have him : ¬ i + 1 < m := by have := hik.out; have := HM.out; omega
      have i4 : ¬ (i : Int) + 1 < (m : Int) := by omega
      have i6 : i ≤ 2000 := by have := hik.out; omega
      go_wp2
      go_ret
      have := hown.out
      rw [he.out, show k = ps.length by omega] at this
      exact ⟨_, rfl, this, hbel.out⟩
end Go.Proofs.Ytdiknijbjmhacaa
