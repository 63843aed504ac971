/- WALKS: the matching of the program: its table, its closure. -/
import Derived.Test.YtkklpmfjbkapiaaW1
import Derived.Test.YtkklpmfjbkapiaaPure3
import Derived.StillTailTactics
namespace Go.Proofs.Ytkklpmfjbkapiaa
open Go.RowKit


set_option maxHeartbeats 400000 in
theorem at_any (x y : Int) (W q N : Nat) (g b6 b5 : Nat) (w : World) (h6 : w.cell? ⟨b6, 0, none⟩ = some (.slice (some ⟨g, 0, none⟩) N N)) (h5 : w.cell? ⟨b5, 0, none⟩ = some (.int .i64 ((W : Int) + 1)))
    (hx : 0 ≤ x) (hy : 0 ≤ y) (hq : x * ((W : Int) + 1) + y = (q : Int)) (hlt : q < N) (hN : N ≤ 16000000) :
    Calls Try.prog 30 #[.int .i64 x, .int .i64 y, .pointer (some ⟨b6, 0, none⟩), .pointer (some ⟨b5, 0, none⟩)] w fun e w' => e = .returned (.pointer (some ⟨g, q, none⟩)) ∧ w = w' := by
  obtain ⟨p, hp⟩ : ∃ p : Int, p = x * ((W : Int) + 1) := ⟨_, rfl⟩
  have hp0 : 0 ≤ p := by rw [hp]; exact Int.mul_nonneg hx (by omega)
  rw [← hp] at hq
  have hw : wrap64 (x * ((W : Int) + 1)) = p := by
    rw [← hp]; exact IntWalk.wrap64_in _ ⟨by omega, by omega⟩
  clear hp
  obtain rfl : y = (q : Int) - p := by omega
  have hs : p + ((q : Int) - p) = (q : Int) := by omega
  clear hq
  go_enter Try.func30, Try.ntmps30
  go_wp2
  go_ret
  exact ⟨rfl, rfl⟩
theorem at_still (x y : Int) (W q N : Nat) (g b6 b5 : Nat) (w : World) (h6 : w.cell? ⟨b6, 0, none⟩ = some (.slice (some ⟨g, 0, none⟩) N N)) (h5 : w.cell? ⟨b5, 0, none⟩ = some (.int .i64 ((W : Int) + 1)))
    (hx : 0 ≤ x) (hy : 0 ≤ y) (hq : x * ((W : Int) + 1) + y = (q : Int)) (hlt : q < N) (hN : N ≤ 16000000) :
    Calls Try.prog 30 #[.int .i64 x, .int .i64 y, .pointer (some ⟨b6, 0, none⟩), .pointer (some ⟨b5, 0, none⟩)] w fun e w' => e = .returned (.pointer (some ⟨g, q, none⟩)) ∧ w' = w :=
  (at_any x y W q N g b6 b5 w h6 h5 hx hy hq hlt hN).mono fun _ _ h => ⟨h.1, h.2.symm⟩

def pairCells (p : Nat × Nat) : List Value := [.int .i64 p.1, .int .i64 p.2]
theorem info_i32 : (Try.prog.info? 21).map (fun i => (i.zero, i.size, i.bytes)) = some (some (.int .i32 0), 1, 4) := by kernel_rfl
theorem info_pair : (Try.prog.info? 44).map (fun i => (i.zero, i.size, i.bytes)) = some (some (.agg #[.int .i64 0, .int .i64 0]), 2, 16) := by kernel_rfl

/-- the closure's two variables, and the table of which 'D' tells what is done -/
structure Tab (a b : List ByteArray) (N g5 g7 g6 : Nat) (D : Nat → Nat → Prop) (w : World) : Prop where
  width : w.heap[g5]? = some (.cells #[.int .i64 ((b.length : Int) + 1)] 3 (0, 0))
  slice : w.heap[g6]? = some (.cells #[.slice (some ⟨g7, 0, none⟩) N N] 58 (0, 0))
  table : ∃ cur, w.heap[g7]? = some (.cells cur 21 (0, 0)) ∧ cur.size = N ∧ (∀ i, i < N → ∃ z : Int, cur[i]? = some (.int .i32 z)) ∧
    ∀ i k, i ≤ a.length → k ≤ b.length → D i k → cur[i * (b.length + 1) + k]? = some (.int .i32 (Sq.lcs (a.drop i) (b.drop k)))

section
variable {a b : List ByteArray} {N g5 g7 g6 : Nat} {D D' : Nat → Nat → Prop} {w w' : World}
theorem Tab.w5 (h : Tab a b N g5 g7 g6 D w) : w.cell? ⟨g5, 0, none⟩ = some (.int .i64 ((b.length : Int) + 1)) := cell_of_one h.width
theorem Tab.w6 (h : Tab a b N g5 g7 g6 D w) : w.cell? ⟨g6, 0, none⟩ = some (.slice (some ⟨g7, 0, none⟩) N N) := cell_of_one h.slice
theorem Tab.free (h : Tab a b N g5 g7 g6 D w) (i : Nat) : w.frozen? ⟨g7, i, none⟩ = false := by
  obtain ⟨cur, hc, _⟩ := h.table; simp [World.frozen?, hc]
theorem Tab.cell (h : Tab a b N g5 g7 g6 D w) {i k : Nat} (hi : i ≤ a.length) (hk : k ≤ b.length) (hd : D i k) : w.cell? ⟨g7, i * (b.length + 1) + k, none⟩ = some (.int .i32 (Sq.lcs (a.drop i) (b.drop k))) := by
  obtain ⟨cur, hc, _, _, hv⟩ := h.table
  rw [cell_of_row w g7 _ cur _ (0, 0) hc]; exact hv i k hi hk hd
theorem Tab.some (h : Tab a b N g5 g7 g6 D w) {i : Nat} (hi : i < N) : ∃ z : Int, w.cell? ⟨g7, i, none⟩ = some (.int .i32 z) := by
  obtain ⟨cur, hc, _, hz, _⟩ := h.table
  obtain ⟨z, e⟩ := hz i hi
  exact ⟨z, by rw [cell_of_row w g7 _ cur _ (0, 0) hc]; exact e⟩
theorem Tab.weak (h : Tab a b N g5 g7 g6 D w) (hd : ∀ i k, i ≤ a.length → k ≤ b.length → D' i k → D i k) : Tab a b N g5 g7 g6 D' w := by
  obtain ⟨cur, hc, hs, hz, hv⟩ := h.table
  exact ⟨h.width, h.slice, cur, hc, hs, hz, fun i k hi hk e => hv i k hi hk (hd i k hi hk e)⟩
theorem Tab.keep (h : Tab a b N g5 g7 g6 D w) {B : Nat} (hb : Below B w w') (h5 : g5 < B) (h7 : g7 < B) (h6 : g6 < B) : Tab a b N g5 g7 g6 D w' := by
  obtain ⟨cur, hc, hs, hz, hv⟩ := h.table
  exact ⟨(hb.block _ h5).trans h.width, (hb.block _ h6).trans h.slice, cur, (hb.block _ h7).trans hc, hs, hz, hv⟩
theorem Tab.set (h : Tab a b N g5 g7 g6 D w) (hN : N = (a.length + 1) * (b.length + 1)) (n5 : g5 ≠ g7) (n6 : g6 ≠ g7) {i k : Nat} (hi : i ≤ a.length) (hk : k ≤ b.length) {u : Int} (hu : u = Sq.lcs (a.drop i) (b.drop k))
    (hd : ∀ i' k', i' ≤ a.length → k' ≤ b.length → D' i' k' → D i' k' ∨ i' = i ∧ k' = k) : Tab a b N g5 g7 g6 D' (w.setCell ⟨g7, i * (b.length + 1) + k, none⟩ (.int .i32 u)) := by
  obtain ⟨cur, hc, hs, hz, hv⟩ := h.table
  have hin : i * (b.length + 1) + k < cur.size := by
    rw [hs, hN]
    have : i * (b.length + 1) ≤ a.length * (b.length + 1) := Nat.mul_le_mul_right _ hi
    rw [Nat.add_mul]; omega
  refine ⟨(Below.heap_setCell _ _ _ _ n5).trans h.width, (Below.heap_setCell _ _ _ _ n6).trans h.slice, cur.setIfInBounds (i * (b.length + 1) + k) (.int .i32 u), ?_, by simpa using hs, ?_, ?_⟩
  · simp [World.setCell, Array.getElem?_modify, hc]
  · intro j hj
    rw [Array.getElem?_setIfInBounds]
    split
    · exact ⟨u, by simp [hin]⟩
    · exact hz j hj
  · intro i' k' hi' hk' e
    rw [Array.getElem?_setIfInBounds]
    by_cases he : i' = i ∧ k' = k
    · obtain ⟨rfl, rfl⟩ := he
      rw [if_pos rfl, if_pos hin, hu]
    · have hne : ¬ i * (b.length + 1) + k = i' * (b.length + 1) + k' := by
        intro e'
        apply he
        have e1 : i = i' := by
          have h1 : (i * (b.length + 1) + k) / (b.length + 1) = i := by rw [Nat.add_comm, Nat.add_mul_div_right _ _ (by omega), Nat.div_eq_of_lt (by omega), Nat.zero_add]
          have h2 : (i' * (b.length + 1) + k') / (b.length + 1) = i' := by rw [Nat.add_comm, Nat.add_mul_div_right _ _ (by omega), Nat.div_eq_of_lt (by omega), Nat.zero_add]
          rw [← h1, ← h2, e']
        subst e1
        exact ⟨rfl, by omega⟩
      rw [if_neg hne]
      exact hv i' k' hi' hk' ((hd i' k' hi' hk' e).resolve_right he)
end
theorem Tab.set' {a b : List ByteArray} {N g5 g7 g6 : Nat} {D D' : Nat → Nat → Prop} {w w' : World} (h : Tab a b N g5 g7 g6 D w) (hN : N = (a.length + 1) * (b.length + 1)) (n5 : g5 ≠ g7) (n6 : g6 ≠ g7) {i k q : Nat} (hi : i ≤ a.length) (hk : k ≤ b.length) (hq : q = i * (b.length + 1) + k) {u : Int}
    (hu : u = Sq.lcs (a.drop i) (b.drop k)) (hd : ∀ i' k', i' ≤ a.length → k' ≤ b.length → D' i' k' → D i' k' ∨ i' = i ∧ k' = k) (hw : w' = w.setCell ⟨g7, q, none⟩ (.int .i32 u)) : Tab a b N g5 g7 g6 D' w' := by
  subst hw hq; exact h.set hN n5 n6 hi hk hu hd
theorem tab_lt {la lb i k N : Nat} (hN : N = (la + 1) * (lb + 1)) (hi : i ≤ la) (hk : k ≤ lb) : i * (lb + 1) + k < N := by
  have : i * (lb + 1) ≤ la * (lb + 1) := Nat.mul_le_mul_right _ hi
  rw [hN, Nat.add_mul]; omega
theorem tab_start (a b : List ByteArray) (N : Nat) (hN : N = (a.length + 1) * (b.length + 1)) (w : World) :
    Tab a b N w.heap.size (w.heap.size + 1) (w.heap.size + 1 + 1) (fun i k => a.length ≤ i ∨ k = b.length) (((w.alloc (.cells #[.int .i64 ((b.length : Int) + 1)] 3)).alloc (.cells (madeCells #[.int .i32 0] N) 21)).alloc
      (.cells #[.slice (some ⟨w.heap.size + 1, 0, none⟩) N N] 58)) := by
  have h1 := heap_alloc_new w (.cells #[.int .i64 ((b.length : Int) + 1)] 3)
  have h2 := heap_alloc_new (w.alloc (.cells #[.int .i64 ((b.length : Int) + 1)] 3)) (.cells (madeCells #[.int .i32 0] N) 21)
  have h3 := heap_alloc_new ((w.alloc (.cells #[.int .i64 ((b.length : Int) + 1)] 3)).alloc (.cells (madeCells #[.int .i32 0] N) 21)) (.cells #[.slice (some ⟨w.heap.size + 1, 0, none⟩) N N] 58)
  simp only [World.size_alloc] at h2 h3
  have hz : ∀ i, i < N → (madeCells #[Value.int .i32 0] N)[i]? = some (.int .i32 0) := by
    intro i hi
    rw [← Array.getElem?_toList, toList_madeCells_one, List.getElem?_replicate, if_pos hi]
  refine ⟨?_, h3, madeCells #[.int .i32 0] N, ?_, size_madeCells _ _, fun i hi => ⟨0, hz i hi⟩, ?_⟩
  · rw [Below.heap_alloc _ _ _ (by simp; omega), Below.heap_alloc _ _ _ (by simp)]; exact h1
  · rw [Below.heap_alloc _ _ _ (by simp)]; exact h2
  · intro i k hi hk hd
    rw [hz _ (tab_lt hN hi hk)]
    rcases hd with h | h
    · rw [List.drop_of_length_le h]; rfl
    · rw [h, List.drop_of_length_le (Nat.le_refl _), Sq.lcs_nil_right]; rfl
end Go.Proofs.Ytkklpmfjbkapiaa
