/- A SEAL AMONG THE ARGUMENTS: its cells, its two lists. -/
import Derived.Test.YthceonkdmcidcaaDoorSY
import Derived.Test.YthceonkdmcidcaaDoorRows
import Derived.Lib.SmallJoins
import Derived.SliceStrings
import Derived.SizedLaws
import Derived.OpenShut
import Derived.Lay
set_option linter.unusedSimpArgs false
set_option linter.unusedVariables false
namespace Go.Proofs.YthceonkdmcidcaaDoor
open Go.RowKit Go.ChangeShapes Go.WideShapes Go.ChangeAt Go.Joins

theorem bytesOfStr : Tryd.prog.bytesOf 9 = 16 := by kernel_rfl
theorem strArg_of {H : Type} {enc : TypeId × Value → H} {W : World} {v : Value} {y : DataW H × List MemPlace} {n : Nat} (h : DataW.trod enc Tryd.prog W 0 (fun _ => true) true n 22 [v] = some y) (hz : ∀ k ∈ y.1.weights Tryd.prog 22, k ≤ reachBytes) :
    ∃ A n c l, v = .slice A n c ∧ StrArg W A n c l := by
  rcases open_strings Tryd.underlying22 Tryd.underlying9 (by kernel_rfl) h with ⟨hcs, _⟩ | ⟨x, l, c, ss, hcs, _, hl, hm, hsz, hx, hcell, hws⟩
  · obtain rfl : v = .slice none 0 0 := by simpa using hcs
    exact ⟨none, 0, 0, [], rfl, strArg_nil W⟩
  · obtain rfl : v = .slice (some x) l c := by simpa using hcs
    have hz' : ss.length = c := by simpa using hsz
    have hd : y.1 = .slice (strs (ss.take l)) (strs (ss.drop l)) := congrArg Prod.fst hx
    have hs := hz (((strs (H := H) (ss.take l)).length + (strs (H := H) (ss.drop l)).length) * Tryd.prog.bytesOf 9) (by rw [hd]; simp [DataW.weights, Tryd.underlying22])
    rw [bytesOfStr] at hs
    simp only [strs, List.length_map, List.length_take, List.length_drop, reachBytes] at hs
    exact ⟨some x, l, c, ss.take l, rfl, strArg_some hl hz' (by omega) hcell⟩
theorem bys_back (l : List ByteArray) : mkL (bys l) = l := by
  unfold bys mkL
  rw [List.map_map]
  conv => rhs; rw [← List.map_id l]
  exact List.map_congr_left fun t _ => mkB_of t
theorem bys_length (l : List ByteArray) : (bys l).length = l.length := by unfold bys; rw [List.length_map]
set_option maxRecDepth 100000 in
theorem seal_open {H : Type} {enc : TypeId × Value → H} {W : World} {r : Reach} {b0 : Nat} {v : Value} {d : DataW H} {p : List MemPlace} (hv : Value.okWide Tryd.prog W r b0 24 v) (h : DataW.Trod enc Tryd.prog W 0 (fun _ => true) true 24 v d p) (hz : ∀ k ∈ d.weights Tryd.prog 24, k ≤ reachBytes) :
    ∃ (idx : Int) (A1 A2 : Option Addr) (c1 c2 : Nat) (S P : List (List UInt8)), v = .agg #[.int .i64 idx, .slice A1 S.length c1, .slice A2 P.length c2] ∧ S.length ≤ c1 ∧ c1 ≤ 8796093022208 ∧ P.length ≤ c2 ∧ c2 ≤ 8796093022208 ∧ Rd W A1 (sv S) ∧ Rd W A2 (sv P) := by
  obtain ⟨v0, v1, v2, y0, y1, y2, n, rfl, rfl, rfl, t0, t1, t2⟩ := open_agg3 Tryd.underlying24 (by kernel_rfl) (by kernel_rfl) hv h
  obtain ⟨idx, e0, -, -⟩ := DataW.trod_int Tryd.underlying3 t0
  obtain rfl : v0 = .int .i64 idx := by simpa using e0
  have z1 : ∀ k ∈ y1.1.weights Tryd.prog 22, k ≤ reachBytes := fun k hk => hz k (by
    simp only [DataW.weights, Tryd.underlying24, DataW.weightsEach, List.map_cons, List.map_nil, List.mem_append]
    exact .inr (.inl hk))
  have z2 : ∀ k ∈ y2.1.weights Tryd.prog 22, k ≤ reachBytes := fun k hk => hz k (by
    simp only [DataW.weights, Tryd.underlying24, DataW.weightsEach, List.map_cons, List.map_nil, List.mem_append]
    exact .inr (.inr (.inl hk)))
  obtain ⟨A1, n1, c1, l1, rfl, rfl, a1, a2, a3⟩ := strArg_of t1 z1
  obtain ⟨A2, n2, c2, l2, rfl, rfl, b1, b2, b3⟩ := strArg_of t2 z2
  exact ⟨idx, A1, A2, c1, c2, bys l1, bys l2, by rw [bys_length, bys_length], by rw [bys_length]; exact a1, a2, by rw [bys_length]; exact b1, b2, by unfold sv; rw [bys_back]; exact a3, by unfold sv; rw [bys_back]; exact b3⟩
theorem weights_at {H : Type} {P : Program} {ts : List TypeId} {ds : List (DataW H)} (h : (DataW.weightsEach P ts ds).all (· ≤ reachBytes) = true) {j : Nat} {t : TypeId} {d : DataW H} (ht : ts[j]? = some t) (hd : ds[j]? = some d) : ∀ k ∈ d.weights P t, k ≤ reachBytes := fun k hk => by
  have := List.all_eq_true.1 h _ (DataW.weights_mem_each ht hd k hk)
  simpa using this
end Go.Proofs.YthceonkdmcidcaaDoor
