/- WALKS: the program's Common; one part cut off. -/
import Derived.Test.YtkklpmfjbkapiaaW2
import Derived.Test.YtkklpmfjbkapiaaW4
import Derived.Test.YtkklpmfjbkapiaaW5
namespace Go.Proofs.Ytkklpmfjbkapiaa
open Go.RowKit

/-- what 'matching' does: its contract, proved in a text of its own -/
def MatchSaid : Prop := ∀ (A B : Option Addr) (c d : Nat) (a b : List ByteArray) (w : World), a.length ≤ 2000 → b.length ≤ 2000 → Rd w A (a.map Value.string) → Rd w B (b.map Value.string) →
    Calls Try.prog 23 #[.slice A a.length c, .slice B b.length d] w fun e w' => ∃ v, e = .returned v ∧
      w'.ownsRow w.heap.size 44 2 v (Sq.mt a b 0 0).length ((Sq.mt a b 0 0).flatMap pairCells) ∧ Below w.heap.size w w'

/-- pairs that lie in a row -/
def RdP (base : Nat) (w : World) (A : Option Addr) (P : List (Nat × Nat)) : Prop :=
  ∀ k (h : k < P.length), ∃ b, A = some ⟨b, 0, none⟩ ∧ base ≤ b ∧ b < w.heap.size ∧ w.cell? ⟨b, k * 2, none⟩ = some (.int .i64 P[k].1) ∧ w.cell? ⟨b, k * 2 + 1, none⟩ = some (.int .i64 P[k].2)
theorem pairCells_at (P : List (Nat × Nat)) : ∀ (k : Nat) (h : k < P.length), (P.flatMap pairCells)[k * 2]? = some (.int .i64 P[k].1) ∧ (P.flatMap pairCells)[k * 2 + 1]? = some (.int .i64 P[k].2) := by
  induction P with
  | nil => intro k h; cases h
  | cons p P ih =>
    intro k h
    cases k with
    | zero => simp [pairCells]
    | succ k =>
      have := ih k (by simpa using h)
      rw [List.flatMap_cons, show (k + 1) * 2 = (pairCells p).length + k * 2 by simp [pairCells]; omega, show (pairCells p).length + k * 2 + 1 = (pairCells p).length + (k * 2 + 1) by omega,
        List.getElem?_append_right (by omega), List.getElem?_append_right (by omega)]
      simpa using this
theorem RdP.of_own {w : World} {base e : Nat} {A : Option Addr} {n c : Nat} {P : List (Nat × Nat)} (h : w.ownsRow base e 2 (.slice A n c) n (P.flatMap pairCells)) : RdP base w A P := by
  intro k hk
  obtain ⟨h1, h2⟩ := pairCells_at P k hk
  have hl := h.1
  have hlen : ∀ Q : List (Nat × Nat), (Q.flatMap pairCells).length = Q.length * 2 := by
    intro Q; induction Q with
    | nil => rfl
    | cons p Q ih => rw [List.flatMap_cons, List.length_append, ih]; simp [pairCells]; omega
  rw [hlen] at hl
  rcases h.2 with ⟨hv, hn⟩ | ⟨g, cap, cur, hv, hbg, hg, _, _, _, ht⟩
  · omega
  · injection hv with hA _ _
    have hgl : g < w.heap.size := lt_of_block hg
    have cell : ∀ j u, (P.flatMap pairCells)[j]? = some u → w.cell? ⟨g, j, none⟩ = some u := by
      intro j u hu
      rw [cell_of_row w g j cur e (0, 0) hg, ← Array.getElem?_toList]
      rw [← ht, List.getElem?_take] at hu
      split at hu
      · exact hu
      · cases hu
    exact ⟨g, hA, hbg, hgl, cell _ _ h1, cell _ _ h2⟩
theorem RdP.grown {base : Nat} {w w' : World} {A : Option Addr} {P : List (Nat × Nat)} {row : Option Nat} (h : RdP base w A P) (hg : w.grownBy w' row) (hr : ∀ k, row = some k → k < base) : RdP base w' A P := by
  intro k hk
  obtain ⟨b, e, hle, hlt, h1, h2⟩ := h k hk
  have hne : some b ≠ row := fun e => by have := hr b e.symm; omega
  exact ⟨b, e, hle, Nat.lt_of_lt_of_le hlt hg.size, hg.cell (a := ⟨b, k * 2, none⟩) h1 hne, hg.cell (a := ⟨b, k * 2 + 1, none⟩) h2 hne⟩
theorem RdP.below {base : Nat} {w w' : World} {A : Option Addr} {P : List (Nat × Nat)} (h : RdP base w A P) (hb : Below w.heap.size w w') : RdP base w' A P := by
  intro k hk
  obtain ⟨b, e, hle, hlt, h1, h2⟩ := h k hk
  exact ⟨b, e, hle, Nat.lt_of_lt_of_le hlt hb.size, (hb.cell (p := ⟨b, k * 2, none⟩) hlt).trans h1, (hb.cell (p := ⟨b, k * 2 + 1, none⟩) hlt).trans h2⟩

theorem rd_two (w : World) (v1 v2 : Option Addr × Nat × Nat) (t : TypeId) : Rd (w.alloc (.cells #[slv v1, slv v2] t)) (some ⟨w.heap.size, 0, none⟩) ([v1, v2].map slv) :=
  Rd.of_row (heap_alloc_new w _) (by exact List.prefix_refl _)
theorem rd_three (w : World) (v1 v2 v3 : Option Addr × Nat × Nat) (t : TypeId) : Rd (w.alloc (.cells #[slv v1, slv v2, slv v3] t)) (some ⟨w.heap.size, 0, none⟩) ([v1, v2, v3].map slv) :=
  Rd.of_row (heap_alloc_new w _) (by exact List.prefix_refl _)

set_option maxHeartbeats 800000 in
theorem common_long (A B : Option Addr) (c d n m : Nat) (w : World) (h : 2000 < n ∨ 2000 < m) :
    Calls Try.prog 14 #[.slice A n c, .slice B m d] w fun e w' => e = .returned (.slice none 0 0) ∧ Below w.heap.size w w' := by
  have hb : big [(A, n, c), (B, m, d)] = true := by simpa [big] using h
  have hrd := Lib.hid (rd_two w (A, n, c) (B, m, d) 22)
  clear h
  go_enter Try.func14, Try.ntmps14
  go_wp2_with fail
  refine (short_f _ _ [(A, n, c), (B, m, d)] 2 _ rfl (by simp) hrd.out hb).mono ?_
  rintro e w' ⟨rfl, rfl⟩
  go_wp2
  go_ret
  exact ⟨rfl, (Below.refl _ _).alloc (Nat.le_refl _) _⟩

set_option maxHeartbeats 1600000 in
theorem common_any (hm : MatchSaid) (A B : Option Addr) (c d : Nat) (a b : List ByteArray) (n m : Nat) (w : World) (hn : n = a.length) (hm' : m = b.length) (ha : a.length ≤ 2000) (hb : b.length ≤ 2000)
    (h : Rd w A (a.map Value.string)) (h2 : Rd w B (b.map Value.string)) :
    Calls Try.prog 14 #[.slice A n c, .slice B m d] w fun e w' => ∃ v : Value, e = .returned v ∧
      w'.ownsRow w.heap.size 9 1 v (Sq.com a b).length ((Sq.com a b).map Value.string) ∧ Below w.heap.size w w' := by
  subst hn hm'
  have HM := Lib.hid hm; clear hm
  have H := Lib.hid h; clear h
  have H2 := Lib.hid h2; clear h2
  have hbg : big [(A, a.length, c), (B, b.length, d)] = false := by simp [big]; omega
  have hrd := Lib.hid (rd_two w (A, a.length, c) (B, b.length, d) 22)
  have HB0 : Hid (Below w.heap.size w (w.alloc (.cells #[slv (A, a.length, c), slv (B, b.length, d)] 22))) := (Below.refl _ _).alloc (Nat.le_refl _) _
  go_enter Try.func14, Try.ntmps14
  go_wp2_with fail
  refine (short_t _ _ [(A, a.length, c), (B, b.length, d)] 2 _ rfl (by simp) hrd.out hbg).mono ?_
  rintro e w' ⟨rfl, rfl⟩
  go_wp2_with fail
  refine (HM.out A B c d a b _ ha hb (H.out.below HB0.out) (H2.out.below HB0.out)).mono ?_
  rintro e w1 ⟨v, rfl, hown, hbel⟩
  obtain ⟨A1, c1, rfl, hc1, hc2⟩ := own_form hown
  have HP := Lib.hid (RdP.of_own hown)
  have HB1 : Hid (Below w.heap.size w w1) := HB0.out.trans (hbel.mono (by simp))
  have hlen : (Sq.mt a b 0 0).length ≤ 2000 := by
    have h1 := Sq.mt_len a b
    have h2 := Sq.lcs_le_left a b
    omega
  have HC : Hid (Sq.com a b = Sq.fst a (Sq.mt a b 0 0)) := Sq.com_fst a b
  have HI : Hid (∀ p ∈ Sq.mt a b 0 0, p.1 < a.length ∧ p.2 < b.length) := Sq.mt_in a b
  generalize Sq.mt a b 0 0 = P at *
  clear hown hbel hrd HB0 HM H2
  go_wp2_with fail
  go_loopw [5, 17] (fun v i wr => ∃ (k : Nat), k ≤ P.length ∧ i = .int .i64 k ∧ Hid (wr.ownsRow w1.heap.size 9 1 v k ((Sq.fst a (P.take k)).map Value.string)) ∧ Hid (Below w1.heap.size w1 wr)) (fun _ i _ => P.length - (intOf i).toNat)
  case atStart => exact ⟨0, Nat.zero_le _, rfl, World.ownsRow_nil _ _ _ _, Below.refl _ _⟩
  case round =>
    obtain ⟨k, hk, rfl, hown, hbel⟩ := hrel
    by_cases hlt : k < P.length
    · have hsz : w1.heap.size ≤ wr.heap.size := hbel.out.size
      have hin : P[k].1 < a.length := (HI.out _ (List.getElem_mem hlt)).1
      have HF := Lib.hid (Sq.fst_take hlt hin)
      obtain ⟨g, rfl, _, hg, cg1, cg2⟩ := (HP.out.below hbel.out) k hlt
      obtain ⟨ba, oa, rfl, hba, hca0⟩ := H.out.map_at hin
      have hca := ((HB1.out.trans (hbel.out.mono HB1.out.size)).cell (p := ⟨ba, oa + P[k].1, none⟩) hba).trans hca0
      clear hca0
      have hba2 : ba < wr.heap.size := by have := HB1.out.size; omega
      generalize P[k].1 = p1 at *
      generalize P[k].2 = p2 at *
      go_wp2_with (at_builtin; refine wpList_app1 rfl (.tmp 21) (.tmp 27) 22 rfl Try.underlying22 info_str rfl (by decide) w1.heap.size _ k _ _ _ rfl (by simp [Value.oneCell']) rfl rfl (by simp) (by exact hown.out.alloc _) (by simp; omega) (by omega) (by omega) ?_; intro v1 w2 hown1 hb1)
      refine ⟨⟨k + 1, hlt, by go_num, ?_, hbel.out.trans (((Below.refl _ _).alloc hsz _).trans hb1)⟩, by simp [intOf]; omega⟩
      show w2.ownsRow _ _ _ _ _ _
      rw [HF.out, List.map_append]
      exact hown1
    · have he : Hid (P.take k = P) := Lib.hid (by rw [List.take_of_length_le (by omega)])
      obtain rfl : k = P.length := by omega
      go_wp2
      go_ret
      have := hown.out
      rw [he.out, ← HC.out] at this
      refine ⟨_, rfl, own_base (by rw [HC.out, Sq.fst_len fun p hp => (HI.out p hp).1, ← HC.out]; exact this) HB1.out.size, HB1.out.trans (hbel.out.mono HB1.out.size)⟩
end Go.Proofs.Ytkklpmfjbkapiaa
