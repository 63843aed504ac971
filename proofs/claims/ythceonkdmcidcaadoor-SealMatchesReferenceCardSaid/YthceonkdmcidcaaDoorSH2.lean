/- WALKS: seal.Sign at arguments that are not as required (printed by gen_sh2.py). -/
import Derived.Test.YthceonkdmcidcaaDoorSH
set_option linter.unusedSimpArgs false
set_option linter.unusedVariables false
namespace Go.Proofs.YthceonkdmcidcaaDoor
open Go.RowKit
theorem bad_below (w : World) (c0 c1 c2 : Array Value) (t0 t1 t2 : TypeId) (n : Nat) : Below w.heap.size w ((((w.alloc (.cells c0 t0)).alloc (.cells c1 t1)).alloc (.cells c2 t2)).drewN n) :=
  below_drewN ((((Below.refl _ _).alloc (Nat.le_refl _) _).alloc (by simp) _).alloc (by simp; omega) _) n
set_option maxRecDepth 100000 in
set_option maxHeartbeats 4000000 in
theorem sign_bad (s m : ByteArray) (h i : Int) (w : World) (hbad : h < 0 ∨ 8 < h ∨ i < 0 ∨ ∃ k : Nat, h = k ∧ k ≤ 8 ∧ ((2 ^ k : Nat) : Int) ≤ i) :
    Calls Tryd.prog 15 #[.string s, .int .i64 h, .int .i64 i, .string m] w fun e w' => e = .returned (.tuple #[.agg #[.int .i64 0, .slice none 0 0, .slice none 0 0], .int .i64 1]) ∧ Below w.heap.size w w' := by
  by_cases a1 : h < 0
  · have d1 : decide (h < 0) = true := by simpa using a1
    clear hbad
    go_enter Tryd.func15, Tryd.ntmps15
    go_wp2_with fail
    go_quiet (fail)
    go_wp2_with fail
    refine bodyPost_ret (v := .tuple #[.agg #[.int .i64 0, .slice none 0 0, .slice none 0 0], .int .i64 1]) (by simp [results, Tryd.results15, go_sem]) rfl ⟨rfl, ?_⟩
    exact (((bad_below w _ _ _ _ _ _ _).setCell (by show w.heap.size ≤ w.heap.size + 1 + 1; omega) _).setCell (by show w.heap.size ≤ w.heap.size + 1 + 1; omega) _).setCell (by show w.heap.size ≤ w.heap.size + 1 + 1; omega) _
  · by_cases a2 : 8 < h
    · have d1 : decide (h < 0) = false := by simpa using a1
      have d2 : decide (8 < h) = true := by simpa using a2
      clear hbad
      go_enter Tryd.func15, Tryd.ntmps15
      go_wp2_with fail
      go_quiet (fail)
      go_wp2_with fail
      refine bodyPost_ret (v := .tuple #[.agg #[.int .i64 0, .slice none 0 0, .slice none 0 0], .int .i64 1]) (by simp [results, Tryd.results15, go_sem]) rfl ⟨rfl, ?_⟩
      exact (((bad_below w _ _ _ _ _ _ _).setCell (by show w.heap.size ≤ w.heap.size + 1 + 1; omega) _).setCell (by show w.heap.size ≤ w.heap.size + 1 + 1; omega) _).setCell (by show w.heap.size ≤ w.heap.size + 1 + 1; omega) _
    · by_cases a3 : i < 0
      · have d1 : decide (h < 0) = false := by simpa using a1
        have d2 : decide (8 < h) = false := by simpa using a2
        have d3 : decide (i < 0) = true := by simpa using a3
        clear hbad
        go_enter Tryd.func15, Tryd.ntmps15
        go_wp2_with fail
        go_quiet (fail)
        go_wp2_with fail
        refine bodyPost_ret (v := .tuple #[.agg #[.int .i64 0, .slice none 0 0, .slice none 0 0], .int .i64 1]) (by simp [results, Tryd.results15, go_sem]) rfl ⟨rfl, ?_⟩
        exact (((bad_below w _ _ _ _ _ _ _).setCell (by show w.heap.size ≤ w.heap.size + 1 + 1; omega) _).setCell (by show w.heap.size ≤ w.heap.size + 1 + 1; omega) _).setCell (by show w.heap.size ≤ w.heap.size + 1 + 1; omega) _
      · obtain ⟨k, rfl, hk, hle⟩ : ∃ k : Nat, h = k ∧ k ≤ 8 ∧ ((2 ^ k : Nat) : Int) ≤ i := by
          rcases hbad with h1 | h1 | h1 | h1
          · omega
          · omega
          · omega
          · exact h1
        clear hbad
        obtain ⟨j, rfl⟩ : ∃ j : Nat, i = j := ⟨i.toNat, by omega⟩
        have i0 : (0 : Int) ≤ (k : Int) := by omega
        have i4 : (k : Int) < 64 := by omega
        have PW := wrap_pow hk
        have PW2 := wrap_pow2 hk
        generalize 2 ^ k = n at *
        have d1 : decide ((k : Int) < 0) = false := by simp
        have d2 : decide ((8 : Int) < (k : Int)) = false := by simp; omega
        have d3 : decide ((j : Int) < 0) = false := by simp
        have d4 : decide ((n : Int) ≤ (j : Int)) = true := by simp; omega
        have d5 : decide (n ≤ j) = true := by simp; omega
        clear a1 a2 a3 hle
        go_enter Tryd.func15, Tryd.ntmps15
        go_wp2_with fail
        go_quiet (fail)
        go_wp2_with fail
        refine bodyPost_ret (v := .tuple #[.agg #[.int .i64 0, .slice none 0 0, .slice none 0 0], .int .i64 1]) (by simp [results, Tryd.results15, go_sem]) rfl ⟨rfl, ?_⟩
        exact (((bad_below w _ _ _ _ _ _ _).setCell (by show w.heap.size ≤ w.heap.size + 1 + 1; omega) _).setCell (by show w.heap.size ≤ w.heap.size + 1 + 1; omega) _).setCell (by show w.heap.size ≤ w.heap.size + 1 + 1; omega) _
end Go.Proofs.YthceonkdmcidcaaDoor
