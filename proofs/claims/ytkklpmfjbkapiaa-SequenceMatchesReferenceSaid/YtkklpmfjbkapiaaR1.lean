/- WALK: the reference's table of lengths. -/
import Derived.Test.YtkklpmfjbkapiaaR0
import Derived.Test.YtkklpmfjbkapiaaW3
import Derived.Test.YtkklpmfjbkapiaaW5
import Derived.StillTailTactics
namespace Go.Proofs.Ytkklpmfjbkapiaa
open Go.RowKit

theorem info_int : (Try.prog.info? 3).map (fun i => (i.zero, i.size, i.bytes)) = some (some (.int .i64 0), 1, 8) := by kernel_rfl
theorem info_ints : (Try.prog.info? 53).map (fun i => (i.zero, i.size, i.bytes)) = some (some (.slice none 0 0), 1, 24) := by kernel_rfl

/-- a table of rows: L rows are there, of which 'D' tells what is done -/
structure T2 (a b : List ByteArray) (g0 L : Nat) (D : Nat → Nat → Prop) (w : World) : Prop where
  outer : ∃ cur, w.heap[g0]? = some (.cells cur 53 (0, 0)) ∧ cur.size = a.length + 1 ∧ ∀ i, i < L → cur[i]? = some (.slice (some ⟨g0 + 1 + i, 0, none⟩) (b.length + 1) (b.length + 1))
  rows : ∀ i, i < L → ∃ cur, w.heap[g0 + 1 + i]? = some (.cells cur 3 (0, 0)) ∧ cur.size = b.length + 1 ∧ (∀ k, k ≤ b.length → ∃ z : Int, cur[k]? = some (.int .i64 z)) ∧
    ∀ k, k ≤ b.length → D i k → cur[k]? = some (.int .i64 (Sq.lcs (a.drop i) (b.drop k)))
section
variable {a b : List ByteArray} {g0 L : Nat} {D D' : Nat → Nat → Prop} {w w' : World}
theorem T2.o (h : T2 a b g0 L D w) {i : Nat} (hi : i < L) : w.cell? ⟨g0, i, none⟩ = some (.slice (some ⟨g0 + 1 + i, 0, none⟩) (b.length + 1) (b.length + 1)) := by
  obtain ⟨cur, hc, _, hv⟩ := h.outer
  rw [cell_of_row w g0 _ cur _ (0, 0) hc]; exact hv i hi
theorem T2.osome (h : T2 a b g0 L D w) {i : Nat} (hi : i ≤ a.length) : ∃ u, w.cell? ⟨g0, i, none⟩ = some u := by
  obtain ⟨cur, hc, hs, _⟩ := h.outer
  rw [cell_of_row w g0 _ cur _ (0, 0) hc]; exact ⟨_, Array.getElem?_eq_getElem (by omega)⟩
theorem T2.ofree (h : T2 a b g0 L D w) (i : Nat) : w.frozen? ⟨g0, i, none⟩ = false := by
  obtain ⟨cur, hc, _⟩ := h.outer; simp [World.frozen?, hc]
theorem T2.cell (h : T2 a b g0 L D w) {i k : Nat} (hi : i < L) (hk : k ≤ b.length) (hd : D i k) : w.cell? ⟨g0 + 1 + i, k, none⟩ = some (.int .i64 (Sq.lcs (a.drop i) (b.drop k))) := by
  obtain ⟨cur, hc, _, _, hv⟩ := h.rows i hi
  rw [cell_of_row w _ _ cur _ (0, 0) hc]; exact hv k hk hd
theorem T2.zany (h : T2 a b g0 L D w) {i k : Nat} (hi : i < L) (hk : k ≤ b.length) : ∃ z : Int, w.cell? ⟨g0 + 1 + i, k, none⟩ = some (.int .i64 z) := by
  obtain ⟨cur, hc, _, hz, _⟩ := h.rows i hi
  obtain ⟨z, e⟩ := hz k hk
  exact ⟨z, by rw [cell_of_row w _ _ cur _ (0, 0) hc]; exact e⟩
theorem T2.free (h : T2 a b g0 L D w) {i : Nat} (hi : i < L) (k : Nat) : w.frozen? ⟨g0 + 1 + i, k, none⟩ = false := by
  obtain ⟨cur, hc, _⟩ := h.rows i hi; simp [World.frozen?, hc]
theorem T2.weak (h : T2 a b g0 L D w) (hd : ∀ i k, i < L → k ≤ b.length → D' i k → D i k) : T2 a b g0 L D' w :=
  ⟨h.outer, fun i hi => by obtain ⟨cur, hc, hs, hz, hv⟩ := h.rows i hi; exact ⟨cur, hc, hs, hz, fun k hk e => hv k hk (hd i k hi hk e)⟩⟩
theorem T2.keep (h : T2 a b g0 L D w) {B : Nat} (hb : Below B w w') (hB : g0 + 1 + L ≤ B) : T2 a b g0 L D w' :=
  ⟨by obtain ⟨cur, hc, hs⟩ := h.outer; exact ⟨cur, (hb.block _ (by omega)).trans hc, hs⟩,
   fun i hi => by obtain ⟨cur, hc, hs⟩ := h.rows i hi; exact ⟨cur, (hb.block _ (by omega)).trans hc, hs⟩⟩
theorem T2.set (h : T2 a b g0 L D w) {i k : Nat} (hi : i < L) (hk : k ≤ b.length) {u : Int} {r : Nat} (hr : r = g0 + 1 + i)
    (hd : ∀ i' k', i' < L → k' ≤ b.length → D' i' k' → (D i' k' ∧ ¬ (i' = i ∧ k' = k)) ∨ (i' = i ∧ k' = k ∧ u = Sq.lcs (a.drop i) (b.drop k))) : T2 a b g0 L D' (w.setCell ⟨r, k, none⟩ (.int .i64 u)) := by
  subst hr
  refine ⟨?_, fun i' hi' => ?_⟩
  · obtain ⟨cur, hc, hs⟩ := h.outer
    exact ⟨cur, (Below.heap_setCell _ _ _ _ (by show g0 ≠ g0 + 1 + i; omega)).trans hc, hs⟩
  · obtain ⟨cur, hc, hs, hz, hv⟩ := h.rows i' hi'
    by_cases e : i' = i
    · subst e
      refine ⟨cur.setIfInBounds k (.int .i64 u), ?_, by simpa using hs, ?_, ?_⟩
      · simp [World.setCell, Array.getElem?_modify, hc]
      · intro j hj
        rw [Array.getElem?_setIfInBounds]
        split
        · exact ⟨u, by simp; omega⟩
        · exact hz j hj
      · intro k' hk' hd'
        rw [Array.getElem?_setIfInBounds]
        rcases hd i' k' hi' hk' hd' with ⟨h1, h2⟩ | ⟨_, rfl, h3⟩
        · rw [if_neg (fun e => h2 ⟨rfl, e.symm⟩)]; exact hv k' hk' h1
        · rw [if_pos rfl, if_pos (by omega), h3]
    · refine ⟨cur, (Below.heap_setCell _ _ _ _ (by show g0 + 1 + i' ≠ g0 + 1 + i; omega)).trans hc, hs, hz, fun k' hk' hd' => ?_⟩
      rcases hd i' k' hi' hk' hd' with ⟨h1, _⟩ | ⟨h1, _⟩
      · exact hv k' hk' h1
      · exact absurd h1 e
theorem made_at (x : Value) (n k : Nat) (hk : k < n) : (madeCells #[x] n)[k]? = some x := by
  rw [Array.getElem?_eq_getElem (by simpa [madeCells] using hk)]
  simp [madeCells, Nat.mod_one]
/-- a new row -/
theorem T2.row (h : T2 a b g0 L (fun i k => a.length ≤ i ∨ k = b.length) w) (hL : L ≤ a.length) (hs : w.heap.size = g0 + 1 + L) :
    T2 a b g0 (L + 1) (fun i k => a.length ≤ i ∨ k = b.length) ((w.setCell ⟨g0, L, none⟩ (.slice (some ⟨w.heap.size, 0, none⟩) (b.length + 1) (b.length + 1))).alloc (.cells (madeCells #[.int .i64 0] (b.length + 1)) 3)) := by
  have hsz : (madeCells #[Value.int .i64 0] (b.length + 1)).size = b.length + 1 := by simp [madeCells]
  have hat : ∀ k, k ≤ b.length → (madeCells #[Value.int .i64 0] (b.length + 1))[k]? = some (.int .i64 0) := fun k hk => made_at _ _ _ (by omega)
  obtain ⟨w1, hw1⟩ : ∃ w1, w1 = w.setCell ⟨g0, L, none⟩ (.slice (some ⟨w.heap.size, 0, none⟩) (b.length + 1) (b.length + 1)) := ⟨_, rfl⟩
  have hs1 : w1.heap.size = g0 + 1 + L := by rw [hw1]; simpa using hs
  have hbel : Below w1.heap.size w1 (w1.alloc (.cells (madeCells #[.int .i64 0] (b.length + 1)) 3)) := (Below.refl _ _).alloc (Nat.le_refl _) _
  rw [← hw1]
  refine ⟨?_, fun i hi => ?_⟩
  · obtain ⟨cur, hc, hs2, hv⟩ := h.outer
    refine ⟨cur.setIfInBounds L (.slice (some ⟨w.heap.size, 0, none⟩) (b.length + 1) (b.length + 1)), ?_, by simpa using hs2, fun i hi => ?_⟩
    · rw [hbel.block g0 (by omega), hw1]
      simp [World.setCell, Array.getElem?_modify, hc]
    · rw [Array.getElem?_setIfInBounds]
      by_cases e : L = i
      · subst e; rw [if_pos rfl, if_pos (by omega), hs]
      · rw [if_neg e]; exact hv i (by omega)
  · by_cases e : i = L
    · subst e
      refine ⟨_, by rw [← hs1]; exact heap_alloc_new w1 _, hsz, fun k hk => ⟨0, hat k hk⟩, fun k hk hd => ?_⟩
      rw [hat k hk]
      have : Sq.lcs (a.drop i) (b.drop k) = 0 := by
        rcases hd with hd | hd
        · rw [List.drop_of_length_le hd]; simp
        · rw [List.drop_of_length_le (l := b) (by omega)]; simp
      rw [this]; rfl
    · obtain ⟨cur, hc, hx⟩ := h.rows i (by omega)
      exact ⟨cur, (hbel.block _ (by omega)).trans (by rw [hw1]; exact (Below.heap_setCell _ _ _ _ (by show g0 + 1 + i ≠ g0; omega)).trans hc), hx⟩
theorem t2_start (a b : List ByteArray) (D : Nat → Nat → Prop) (w : World) : T2 a b w.heap.size 0 D (w.alloc (.cells (madeCells #[.slice none 0 0] (a.length + 1)) 53)) :=
  ⟨⟨_, heap_alloc_new w _, by simp [madeCells], fun i hi => by omega⟩, fun i hi => by omega⟩
end

set_option maxHeartbeats 4000000 in
set_option maxRecDepth 100000 in
theorem lengths_any (A B : Option Addr) (c d : Nat) (a b : List ByteArray) (w : World) (ha : a.length ≤ 2000) (hb : b.length ≤ 2000)
    (h : Rd w A (a.map Value.string)) (h2 : Rd w B (b.map Value.string)) :
    Calls Try.prog 32 #[.slice A a.length c, .slice B b.length d] w fun e w' => e = .returned (.slice (some ⟨w.heap.size, 0, none⟩) (a.length + 1) (a.length + 1)) ∧
      T2 a b w.heap.size (a.length + 1) (fun _ _ => True) w' ∧ Below w.heap.size w w' ∧ w.heap.size + 1 + (a.length + 1) ≤ w'.heap.size := by
  have H := Lib.hid h; clear h
  have H2 := Lib.hid h2; clear h2
  have hmk : ∀ u : World, (Instr.makeSlice 61 (.int .i64 ((a.length : Int) + 1)) (.int .i64 ((a.length : Int) + 1))).run Try.prog u = .ok (.slice (some ⟨u.heap.size, 0, none⟩) (a.length + 1) (a.length + 1)) (u.alloc (.cells (madeCells #[.slice none 0 0] (a.length + 1)) 53)) := by
    intro u; simpa [Value.cells] using mk_run (P := Try.prog) Try.underlying61 info_ints (a.length + 1) (by omega) (by omega) u
  have hmk2 : ∀ u : World, (Instr.makeSlice 53 (.int .i64 ((b.length : Int) + 1)) (.int .i64 ((b.length : Int) + 1))).run Try.prog u = .ok (.slice (some ⟨u.heap.size, 0, none⟩) (b.length + 1) (b.length + 1)) (u.alloc (.cells (madeCells #[.int .i64 0] (b.length + 1)) 3)) := by
    intro u; simpa [Value.cells] using mk_run (P := Try.prog) Try.underlying53 info_int (b.length + 1) (by omega) (by omega) u
  have HT := Lib.hid (t2_start a b (fun i k => a.length ≤ i ∨ k = b.length) w)
  have HB : Hid (Below w.heap.size w (w.alloc (.cells (madeCells #[.slice none 0 0] (a.length + 1)) 53))) := (Below.refl _ _).alloc (Nat.le_refl _) _
  go_enter Try.func32, Try.ntmps32
  go_wp2_with fail
  go_loopw [6] (fun i wr => ∃ m : Nat, m ≤ a.length + 1 ∧ i = .int .i64 m ∧ Hid (T2 a b w.heap.size m (fun i k => a.length ≤ i ∨ k = b.length) wr) ∧ Hid (Below w.heap.size w wr) ∧ Hid (wr.heap.size = w.heap.size + 1 + m)) (fun i _ => a.length + 1 - (intOf i).toNat)
  case atStart => exact ⟨0, Nat.zero_le _, rfl, HT, HB, Lib.hid (by simp)⟩
  case round =>
    obtain ⟨m, hm, rfl, HT1, HB1, HZ1⟩ := hrel
    by_cases hlt : m ≤ a.length
    · obtain ⟨u, hu⟩ := HT1.out.osome hlt
      have hf := HT1.out.ofree m
      have hsz : w.heap.size < wr.heap.size := by have := HZ1.out; omega
      have HT3 := Lib.hid (HT1.out.row hlt HZ1.out)
      go_wp2_with fail
      refine ⟨⟨m + 1, by omega, by go_num, HT3, (HB1.out.setCell (by simp) _).alloc (by simp; omega) _, Lib.hid (by have := HZ1.out; simp; omega)⟩, by simp [intOf]; omega⟩
    · obtain rfl : m = a.length + 1 := by omega
      have HZ : Hid (w.heap.size + 1 + (a.length + 1) ≤ wr.heap.size) := Lib.hid (by have := HZ1.out; omega)
      clear HZ1
      rw [show (((a.length + 1 : Nat)) : Int) = (a.length : Int) + 1 by omega]
      have hge : decide ((a.length : Int) + 1 ≤ (a.length : Int)) = false := by simp; omega
      go_wp2_with fail
      have HB2 := Lib.hid HB1.out; clear HB1 HB HT
      have HT2 := Lib.hid HT1.out; clear HT1
      clear hge
      go_loopw [7] (fun i ws => ∃ m : Nat, m ≤ a.length ∧ i = .int .i64 ((m : Int) - 1) ∧ Hid (T2 a b w.heap.size (a.length + 1) (fun i k => m ≤ i ∨ k = b.length) ws) ∧ Hid (Below w.heap.size w ws) ∧ Hid (w.heap.size + 1 + (a.length + 1) ≤ ws.heap.size))
        (fun i _ => (intOf i + 1).toNat)
      case atStart => exact ⟨a.length, Nat.le_refl _, rfl, HT2, HB2, HZ⟩
      case round =>
        obtain ⟨m, hm, rfl, HT1, HB1, HZ1⟩ := hrel
        rcases m with _ | m
        · rw [show ((0 : Nat) : Int) - 1 = -1 by omega]
          go_wp2_with fail
          go_ret
          exact ⟨rfl, HT1.out.weak (fun i k hi hk _ => .inl (Nat.zero_le _)), HB1.out, HZ1.out⟩
        · rw [show ((m + 1 : Nat) : Int) - 1 = (m : Int) by omega]
          go_wp2_with fail
          go_loopw [8] (fun i ws => ∃ n : Nat, n ≤ b.length ∧ i = .int .i64 ((n : Int) - 1) ∧ Hid (T2 a b w.heap.size (a.length + 1) (fun i k => m + 1 ≤ i ∨ (i = m ∧ n ≤ k) ∨ k = b.length) ws) ∧ Hid (Below w.heap.size w ws) ∧ Hid (w.heap.size + 1 + (a.length + 1) ≤ ws.heap.size))
            (fun i _ => (intOf i + 1).toNat)
          case atStart => exact ⟨b.length, Nat.le_refl _, rfl, HT1.out.weak (fun i k hi hk h => by omega), HB1, HZ1⟩
          case round =>
            obtain ⟨n, hn, rfl, HT2, HB2, HZ2⟩ := hrel
            rcases n with _ | n
            · go_wp2
              exact ⟨⟨m, by omega, by go_num, HT2.out.weak (fun i k hi hk h => by omega), HB2, HZ2⟩, by simp [intOf]⟩
            · rw [show ((n + 1 : Nat) : Int) - 1 = (n : Int) by omega]
              have hmlt : m < a.length := hm
              have hnlt : n < b.length := hn
              obtain ⟨r0, hr0⟩ : ∃ r, r = w.heap.size + 1 + m := ⟨_, rfl⟩
              obtain ⟨r1, hr1⟩ : ∃ r, r = w.heap.size + 1 + (m + 1) := ⟨_, rfl⟩
              have hr01 : r0 ≠ r1 := by omega
              have o0 := HT2.out.o (i := m) (by omega)
              have o1 := HT2.out.o (i := m + 1) (by omega)
              have z0 := HT2.out.zany (i := m) (k := n) (by omega) (by omega)
              obtain ⟨z, z0⟩ := z0
              have f0 := HT2.out.free (i := m) (by omega) n
              have c1 := HT2.out.cell (i := m + 1) (k := n) (by omega) (by omega) (by omega)
              have c2 := HT2.out.cell (i := m) (k := n + 1) (by omega) (by omega) (by omega)
              have c3 := HT2.out.cell (i := m + 1) (k := n + 1) (by omega) (by omega) (by omega)
              rw [← hr0] at o0 z0 f0 c2
              rw [← hr1] at o1 c1 c3
              have g0 : r0 ≠ w.heap.size := by omega
              have g1 : r1 ≠ w.heap.size := by omega
              have Hr0 := Lib.hid hr0; clear hr0
              have Hr1 := Lib.hid hr1; clear hr1
              have wm : IntKind.i64.wrap ((m : Int) + 1) = (m : Int) + 1 := IntWalk.i64_in _ (by omega)
              have wn : IntKind.i64.wrap ((n : Int) + 1) = (n : Int) + 1 := IntWalk.i64_in _ (by omega)
              have m0 : (0 : Int) ≤ (m : Int) := by omega
              have m1 : (0 : Int) ≤ (m : Int) + 1 := by omega
              have n0 : (0 : Int) ≤ (n : Int) := by omega
              have n1 : (0 : Int) ≤ (n : Int) + 1 := by omega
              have m2 : (m : Int) < (a.length : Int) := by omega
              have n2 : (n : Int) < (b.length : Int) := by omega
              have m3 : (m : Int) < (a.length : Int) + 1 := by omega
              have n3 : (n : Int) < (b.length : Int) + 1 := by omega
              have m4 : (m : Int) + 1 < (a.length : Int) + 1 := by omega
              have n4 : (n : Int) + 1 < (b.length : Int) + 1 := by omega
              have mt : ((m : Int) + 1).toNat = m + 1 := by omega
              have nt : ((n : Int) + 1).toNat = n + 1 := by omega
              go_wp2_with fail
              obtain ⟨ba, oa, rfl, hba, hca0⟩ := H.out.map_at hmlt
              obtain ⟨bb, ob, rfl, hbb, hcb0⟩ := H2.out.map_at hnlt
              have HCA := Lib.hid hca0; clear hca0
              have HCB := Lib.hid hcb0; clear hcb0
              refine wp_region_still_tail 23 (by kernel_rfl) (by kernel_rfl) ?_
              simp only [List.take_succ_cons, List.take_zero, List.drop_succ_cons, List.drop_zero]
              change wpStill _ _ wr.drew (fun a' => wpList _ _ _ _ a' wr.drew) _ _
              have DB : Hid (Below wr.heap.size wr wr.drew) := (Below.refl _ _).drew
              have DS : Hid (wr.heap.size = wr.drew.heap.size) := Lib.hid rfl
              replace o0 : wr.drew.cell? _ = _ := o0
              replace o1 : wr.drew.cell? _ = _ := o1
              replace z0 : wr.drew.cell? _ = _ := z0
              replace f0 : wr.drew.frozen? _ = _ := f0
              replace c1 : wr.drew.cell? _ = _ := c1
              replace c2 : wr.drew.cell? _ = _ := c2
              replace c3 : wr.drew.cell? _ = _ := c3
              generalize wr.drew = w2 at *
              rcases Int.lt_or_le (Sq.lcs (a.drop (m + 1)) (b.drop n) : Int) (Sq.lcs (a.drop m) (b.drop (n + 1)) : Int) with hxy | hxy
              · iterate 23 still_step
                refine wpStill_nil ?_
                go_wp2_with fail
                have T3 : Hid (T2 a b w.heap.size (a.length + 1) (fun i k => m + 1 ≤ i ∨ (i = m ∧ n + 1 ≤ k) ∨ k = b.length) (w2.setCell ⟨r0, n, none⟩ (.int .i64 (Sq.lcs (a.drop m) (b.drop (n + 1)) : Int)))) := Lib.hid ((HT2.out.keep DB.out (by have := HZ2.out; omega)).set (by omega) (by omega) Hr0.out (fun i' k' _ _ h => .inl ⟨h, by omega⟩))
                have B3 : Hid (Below w.heap.size w (w2.setCell ⟨r0, n, none⟩ (.int .i64 (Sq.lcs (a.drop m) (b.drop (n + 1)) : Int)))) := Lib.hid ((HB2.out.trans (DB.out.mono HB2.out.size)).setCell (by have := Hr0.out; simp; omega) _)
                have Z3 : Hid (w.heap.size + 1 + (a.length + 1) ≤ (w2.setCell ⟨r0, n, none⟩ (.int .i64 (Sq.lcs (a.drop m) (b.drop (n + 1)) : Int))).heap.size) := Lib.hid (by have := HZ2.out; have h := DB.out.size; simp; omega)
                have T4 : Hid (a[m] ≠ b[n] → T2 a b w.heap.size (a.length + 1) (fun i k => m + 1 ≤ i ∨ (i = m ∧ n ≤ k) ∨ k = b.length) (w2.setCell ⟨r0, n, none⟩ (.int .i64 (Sq.lcs (a.drop m) (b.drop (n + 1)) : Int)))) := Lib.hid (fun hne => (HT2.out.keep DB.out (by have := HZ2.out; omega)).set (by omega) (by omega) Hr0.out (fun i' k' _ _ h => by
                  by_cases e : i' = m ∧ k' = n
                  · refine .inr ⟨e.1, e.2, ?_⟩
                    rw [drop_at hmlt, drop_at hnlt, Sq.lcs_ne hne, ← drop_at hmlt, ← drop_at hnlt]; omega
                  · exact .inl ⟨by omega, e⟩))
                clear o0 o1 z0 f0 c1 c2 c3 DB DS
                generalize w2.setCell ⟨r0, n, none⟩ (.int .i64 (Sq.lcs (a.drop m) (b.drop (n + 1)) : Int)) = w3 at *
                have hca := (B3.out.cell (p := ⟨ba, oa + m, none⟩) hba).trans HCA.out
                have hcb := (B3.out.cell (p := ⟨bb, ob + n, none⟩) hbb).trans HCB.out
                by_cases he : a[m] = b[n]
                · have he' := str_eq_t he
                  have HL : Hid ((Sq.lcs (a.drop (m + 1)) (b.drop (n + 1)) : Int) + 1 = (Sq.lcs (a.drop m) (b.drop n) : Int)) := Lib.hid (by rw [drop_at hmlt, drop_at hnlt, he, Sq.lcs_eq]; simp)
                  have HL2 : Hid (1 + (Sq.lcs (a.drop (m + 1)) (b.drop (n + 1)) : Int) = (Sq.lcs (a.drop m) (b.drop n) : Int)) := Lib.hid (by have := HL.out; omega)
                  clear he T4
                  go_wp2_with fail
                  go_quiet (fail)
                  go_wp2_with fail
                  have o0 := T3.out.o (i := m) (by omega)
                  have o1 := T3.out.o (i := m + 1) (by omega)
                  obtain ⟨z, z0⟩ := T3.out.zany (i := m) (k := n) (by omega) (by omega)
                  have f0 := T3.out.free (i := m) (by omega) n
                  have c3 := T3.out.cell (i := m + 1) (k := n + 1) (by omega) (by omega) (by omega)
                  have b3 := lcs_i32 a b ha (m + 1) (n + 1)
                  have wl : IntKind.i64.wrap (1 + (Sq.lcs (a.drop (m + 1)) (b.drop (n + 1)) : Int)) = 1 + (Sq.lcs (a.drop (m + 1)) (b.drop (n + 1)) : Int) := IntWalk.i64_in _ (by omega)
                  rw [← Hr0.out] at o0 z0 f0
                  rw [← Hr1.out] at o1 c3
                  refine wp_region_still_tail 16 (by kernel_rfl) (by kernel_rfl) ?_
                  simp only [List.take_succ_cons, List.take_zero, List.drop_succ_cons, List.drop_zero]
                  change wpStill _ _ (w3.drewN nq).drew (fun a' => wpList _ _ _ _ a' (w3.drewN nq).drew) _ _
                  have DB : Hid (Below w3.heap.size w3 (w3.drewN nq).drew) := (below_drewN (Below.refl _ _) _).drew
                  have DS : Hid (w3.heap.size = (w3.drewN nq).drew.heap.size) := Lib.hid rfl
                  replace o0 : (w3.drewN nq).drew.cell? _ = _ := o0
                  replace o1 : (w3.drewN nq).drew.cell? _ = _ := o1
                  replace z0 : (w3.drewN nq).drew.cell? _ = _ := z0
                  replace c3 : (w3.drewN nq).drew.cell? _ = _ := c3
                  replace f0 : (w3.drewN nq).drew.frozen? _ = _ := f0
                  clear hca hcb
                  generalize (w3.drewN nq).drew = w4 at *
                  iterate 16 still_step
                  refine wpStill_nil ?_
                  go_wp2_with fail
                  exact ⟨⟨n, by omega, by go_num, (T3.out.keep DB.out (by have := Z3.out; omega)).set (by omega) (by omega) Hr0.out (fun i' k' _ _ h => by
                    by_cases e : i' = m ∧ k' = n
                    · exact .inr ⟨e.1, e.2, HL2.out⟩
                    · exact .inl ⟨by omega, e⟩), Lib.hid ((B3.out.trans (DB.out.mono B3.out.size)).setCell (by have := Hr0.out; simp; omega) _), Lib.hid (by have := Z3.out; have h := DB.out.size; simp; omega)⟩, by simp [intOf]⟩
                · have he' := str_eq_f he
                  have T5 := Lib.hid (T4.out he)
                  clear he T4
                  go_wp2_with fail
                  go_quiet (fail)
                  go_wp2_with fail
                  exact ⟨⟨n, by omega, by go_num, T5.out.keep (below_drewN (Below.refl w3.heap.size _) _) Z3.out, Lib.hid (below_drewN B3.out _), Z3⟩, by simp [intOf]⟩
              · iterate 23 still_step
                refine wpStill_nil ?_
                go_wp2_with fail
                have T3 : Hid (T2 a b w.heap.size (a.length + 1) (fun i k => m + 1 ≤ i ∨ (i = m ∧ n + 1 ≤ k) ∨ k = b.length) (w2.setCell ⟨r0, n, none⟩ (.int .i64 (Sq.lcs (a.drop (m + 1)) (b.drop n) : Int)))) := Lib.hid ((HT2.out.keep DB.out (by have := HZ2.out; omega)).set (by omega) (by omega) Hr0.out (fun i' k' _ _ h => .inl ⟨h, by omega⟩))
                have B3 : Hid (Below w.heap.size w (w2.setCell ⟨r0, n, none⟩ (.int .i64 (Sq.lcs (a.drop (m + 1)) (b.drop n) : Int)))) := Lib.hid ((HB2.out.trans (DB.out.mono HB2.out.size)).setCell (by have := Hr0.out; simp; omega) _)
                have Z3 : Hid (w.heap.size + 1 + (a.length + 1) ≤ (w2.setCell ⟨r0, n, none⟩ (.int .i64 (Sq.lcs (a.drop (m + 1)) (b.drop n) : Int))).heap.size) := Lib.hid (by have := HZ2.out; have h := DB.out.size; simp; omega)
                have T4 : Hid (a[m] ≠ b[n] → T2 a b w.heap.size (a.length + 1) (fun i k => m + 1 ≤ i ∨ (i = m ∧ n ≤ k) ∨ k = b.length) (w2.setCell ⟨r0, n, none⟩ (.int .i64 (Sq.lcs (a.drop (m + 1)) (b.drop n) : Int)))) := Lib.hid (fun hne => (HT2.out.keep DB.out (by have := HZ2.out; omega)).set (by omega) (by omega) Hr0.out (fun i' k' _ _ h => by
                  by_cases e : i' = m ∧ k' = n
                  · refine .inr ⟨e.1, e.2, ?_⟩
                    rw [drop_at hmlt, drop_at hnlt, Sq.lcs_ne hne, ← drop_at hmlt, ← drop_at hnlt]; omega
                  · exact .inl ⟨by omega, e⟩))
                clear o0 o1 z0 f0 c1 c2 c3 DB DS
                generalize w2.setCell ⟨r0, n, none⟩ (.int .i64 (Sq.lcs (a.drop (m + 1)) (b.drop n) : Int)) = w3 at *
                have hca := (B3.out.cell (p := ⟨ba, oa + m, none⟩) hba).trans HCA.out
                have hcb := (B3.out.cell (p := ⟨bb, ob + n, none⟩) hbb).trans HCB.out
                by_cases he : a[m] = b[n]
                · have he' := str_eq_t he
                  have HL : Hid ((Sq.lcs (a.drop (m + 1)) (b.drop (n + 1)) : Int) + 1 = (Sq.lcs (a.drop m) (b.drop n) : Int)) := Lib.hid (by rw [drop_at hmlt, drop_at hnlt, he, Sq.lcs_eq]; simp)
                  have HL2 : Hid (1 + (Sq.lcs (a.drop (m + 1)) (b.drop (n + 1)) : Int) = (Sq.lcs (a.drop m) (b.drop n) : Int)) := Lib.hid (by have := HL.out; omega)
                  clear he T4
                  go_wp2_with fail
                  go_quiet (fail)
                  go_wp2_with fail
                  have o0 := T3.out.o (i := m) (by omega)
                  have o1 := T3.out.o (i := m + 1) (by omega)
                  obtain ⟨z, z0⟩ := T3.out.zany (i := m) (k := n) (by omega) (by omega)
                  have f0 := T3.out.free (i := m) (by omega) n
                  have c3 := T3.out.cell (i := m + 1) (k := n + 1) (by omega) (by omega) (by omega)
                  have b3 := lcs_i32 a b ha (m + 1) (n + 1)
                  have wl : IntKind.i64.wrap (1 + (Sq.lcs (a.drop (m + 1)) (b.drop (n + 1)) : Int)) = 1 + (Sq.lcs (a.drop (m + 1)) (b.drop (n + 1)) : Int) := IntWalk.i64_in _ (by omega)
                  rw [← Hr0.out] at o0 z0 f0
                  rw [← Hr1.out] at o1 c3
                  refine wp_region_still_tail 16 (by kernel_rfl) (by kernel_rfl) ?_
                  simp only [List.take_succ_cons, List.take_zero, List.drop_succ_cons, List.drop_zero]
                  change wpStill _ _ (w3.drewN nq).drew (fun a' => wpList _ _ _ _ a' (w3.drewN nq).drew) _ _
                  have DB : Hid (Below w3.heap.size w3 (w3.drewN nq).drew) := (below_drewN (Below.refl _ _) _).drew
                  have DS : Hid (w3.heap.size = (w3.drewN nq).drew.heap.size) := Lib.hid rfl
                  replace o0 : (w3.drewN nq).drew.cell? _ = _ := o0
                  replace o1 : (w3.drewN nq).drew.cell? _ = _ := o1
                  replace z0 : (w3.drewN nq).drew.cell? _ = _ := z0
                  replace c3 : (w3.drewN nq).drew.cell? _ = _ := c3
                  replace f0 : (w3.drewN nq).drew.frozen? _ = _ := f0
                  clear hca hcb
                  generalize (w3.drewN nq).drew = w4 at *
                  iterate 16 still_step
                  refine wpStill_nil ?_
                  go_wp2_with fail
                  exact ⟨⟨n, by omega, by go_num, (T3.out.keep DB.out (by have := Z3.out; omega)).set (by omega) (by omega) Hr0.out (fun i' k' _ _ h => by
                    by_cases e : i' = m ∧ k' = n
                    · exact .inr ⟨e.1, e.2, HL2.out⟩
                    · exact .inl ⟨by omega, e⟩), Lib.hid ((B3.out.trans (DB.out.mono B3.out.size)).setCell (by have := Hr0.out; simp; omega) _), Lib.hid (by have := Z3.out; have h := DB.out.size; simp; omega)⟩, by simp [intOf]⟩
                · have he' := str_eq_f he
                  have T5 := Lib.hid (T4.out he)
                  clear he T4
                  go_wp2_with fail
                  go_quiet (fail)
                  go_wp2_with fail
                  exact ⟨⟨n, by omega, by go_num, T5.out.keep (below_drewN (Below.refl w3.heap.size _) _) Z3.out, Lib.hid (below_drewN B3.out _), Z3⟩, by simp [intOf]⟩
end Go.Proofs.Ytkklpmfjbkapiaa
