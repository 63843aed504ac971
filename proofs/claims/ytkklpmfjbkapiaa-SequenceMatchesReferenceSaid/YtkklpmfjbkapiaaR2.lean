/- WALK: the reference's matching. -/
import Derived.Test.YtkklpmfjbkapiaaR1
namespace Go.Proofs.Ytkklpmfjbkapiaa
open Go.RowKit

/-- a slice of integers comes back -/
def RetI (w : World) (n : Nat) (l : List Int) (e : Ending) (w' : World) : Prop := ∃ A c, e = .returned (.slice A n c) ∧ n = l.length ∧ n ≤ c ∧ c ≤ 9223372036854775807 ∧ Rd w' A (l.map (Value.int .i64)) ∧ Below w.heap.size w w'

/-- the row that is being filled: m places are -/
def Fill (a b : List ByteArray) (g m : Nat) (w : World) : Prop := ∃ cur, w.heap[g]? = some (.cells cur 3 (0, 0)) ∧ cur.size = a.length ∧ ∀ j, j < m → j < a.length → cur[j]? = some (.int .i64 (Sq.idx (Sq.asg (Sq.mt a b 0 0) j)))
section
variable {a b : List ByteArray} {g m : Nat} {w w' : World}
theorem Fill.start (a b : List ByteArray) (w : World) : Fill a b w.heap.size 0 (w.alloc (.cells (madeCells #[.int .i64 0] a.length) 3)) :=
  ⟨_, heap_alloc_new w _, by simp [madeCells], fun j h => by omega⟩
theorem Fill.there (h : Fill a b g m w) {i : Nat} (hi : i < a.length) : ∃ u, w.cell? ⟨g, i, none⟩ = some u := by
  obtain ⟨cur, hc, hs, _⟩ := h
  exact ⟨_, by rw [cell_of_row w g _ cur _ (0, 0) hc]; exact Array.getElem?_eq_getElem (by omega)⟩
theorem Fill.free (h : Fill a b g m w) (i : Nat) : w.frozen? ⟨g, i, none⟩ = false := by
  obtain ⟨cur, hc, _⟩ := h; simp [World.frozen?, hc]
theorem Fill.keep (h : Fill a b g m w) {B : Nat} (hb : Below B w w') (hB : g < B) : Fill a b g m w' := by
  obtain ⟨cur, hc, hx⟩ := h
  exact ⟨cur, (hb.block _ hB).trans hc, hx⟩
theorem Fill.put (h : Fill a b g m w) {i : Nat} (hi : m ≤ i) (u : Value) : Fill a b g m (w.setCell ⟨g, i, none⟩ u) := by
  obtain ⟨cur, hc, hs, hv⟩ := h
  refine ⟨cur.setIfInBounds i u, by simp [World.setCell, Array.getElem?_modify, hc], by simpa using hs, fun j hj hja => ?_⟩
  rw [Array.getElem?_setIfInBounds, if_neg (by omega)]
  exact hv j hj hja
theorem Fill.set (h : Fill a b g m w) {u : Int} (hu : Sq.idx (Sq.asg (Sq.mt a b 0 0) m) = u) : Fill a b g (m + 1) (w.setCell ⟨g, m, none⟩ (.int .i64 u)) := by
  obtain ⟨cur, hc, hs, hv⟩ := h
  refine ⟨cur.setIfInBounds m (.int .i64 u), by simp [World.setCell, Array.getElem?_modify, hc], by simpa using hs, fun j hj hja => ?_⟩
  rw [Array.getElem?_setIfInBounds]
  by_cases e : m = j
  · subst e; rw [if_pos rfl, if_pos (by omega), hu]
  · rw [if_neg e]; exact hv j (by omega) hja
theorem Fill.rd (h : Fill a b g m w) (hm : a.length ≤ m) : Rd w (some ⟨g, 0, none⟩) ((Sq.mtI a b).map (Value.int .i64)) := by
  obtain ⟨cur, hc, hs, hv⟩ := h
  refine Rd.of_row hc ?_
  have e : (Sq.mtI a b).map (Value.int .i64) = cur.toList := by
    apply List.ext_getElem
    · simp [Sq.mtI, hs]
    · intro i h1 h2
      have hi : i < a.length := by simpa [Sq.mtI] using h1
      have := hv i (by omega) hi
      rw [Array.getElem?_eq_getElem (by omega)] at this
      have e := Option.some.inj this
      simp [Sq.mtI, e]
  rw [e]; exact List.prefix_refl _
end
theorem snoc_fst {done : List (Nat × Nat)} {m n : Nat} (h : ∀ p ∈ done, p.1 < m) : ∀ p ∈ done ++ [(m, n)], p.1 < m + 1 := by
  intro p hp
  rcases List.mem_append.1 hp with h1 | h1
  · have := h p h1; omega
  · simp at h1; subst h1; simp

set_option maxHeartbeats 4000000 in
set_option maxRecDepth 100000 in
theorem rmatch_any (A B : Option Addr) (c d : Nat) (a b : List ByteArray) (w : World) (ha : a.length ≤ 2000) (hb : b.length ≤ 2000)
    (h : Rd w A (a.map Value.string)) (h2 : Rd w B (b.map Value.string)) :
    Calls Try.prog 27 #[.slice A a.length c, .slice B b.length d] w (RetI w a.length (Sq.mtI a b)) := by
  have H := Lib.hid h; clear h
  have H2 := Lib.hid h2; clear h2
  have hmk : ∀ u : World, (Instr.makeSlice 53 (.int .i64 (a.length : Int)) (.int .i64 (a.length : Int))).run Try.prog u = .ok (.slice (some ⟨u.heap.size, 0, none⟩) a.length a.length) (u.alloc (.cells (madeCells #[.int .i64 0] a.length) 3)) := by
    intro u; simpa [Value.cells] using mk_run (P := Try.prog) Try.underlying53 info_int a.length (by omega) (by omega) u
  go_enter Try.func27, Try.ntmps27
  go_wp2_with fail
  refine (lengths_any A B c d a b _ ha hb H.out H2.out).mono ?_
  rintro e w1 ⟨rfl, ht, hbl, hz⟩
  have HT1 := Lib.hid ht; have HB1 := Lib.hid hbl; have HZ1 := Lib.hid hz; clear ht hbl hz
  have hB2 : Below w1.heap.size w1 (w1.alloc (.cells (madeCells #[.int .i64 0] a.length) 3)) := (Below.refl _ _).alloc (Nat.le_refl _) _
  have HT2 := Lib.hid (HT1.out.keep hB2 HZ1.out)
  have HB2 := Lib.hid (HB1.out.trans (hB2.mono HB1.out.size))
  have HF2 := Lib.hid (Fill.start a b w1)
  obtain ⟨g, hg⟩ : ∃ g, g = w1.heap.size := ⟨_, rfl⟩
  have hgw : w.heap.size + 1 + (a.length + 1) ≤ g := by have := HZ1.out; omega
  have hS2 : Hid (g < (w1.alloc (.cells (madeCells #[.int .i64 0] a.length) 3)).heap.size) := Lib.hid (by rw [hg]; simp)
  rw [← hg] at HF2
  clear hB2 HT1 HB1 HZ1
  go_wp2_with fail
  rw [← hg]
  have Hg := Lib.hid hg; clear hg
  go_loopw [7, 8] (fun i k ws => ∃ (m n : Nat) (done : List (Nat × Nat)), m ≤ a.length ∧ n ≤ b.length ∧ i = .int .i64 m ∧ k = .int .i64 n ∧ Hid (Sq.mt a b 0 0 = done ++ Sq.mt (a.drop m) (b.drop n) m n) ∧ Hid (∀ p ∈ done, p.1 < m) ∧
      Hid (Fill a b g m ws) ∧ Hid (T2 a b w.heap.size (a.length + 1) (fun _ _ => True) ws) ∧ Hid (Below w.heap.size w ws) ∧ Hid (g < ws.heap.size))
    (fun i k _ => (a.length - (intOf i).toNat) + (b.length - (intOf k).toNat))
  case atStart => exact ⟨0, 0, [], Nat.zero_le _, Nat.zero_le _, rfl, rfl, Lib.hid (by simp), Lib.hid (by intro p hp; cases hp), HF2, HT2, HB2, hS2⟩
  case round =>
    obtain ⟨m, n, done, hm, hn, rfl, rfl, hdone, hdl, HF, HT, HB, HS⟩ := hrel
    by_cases hmlt : m < a.length
    · obtain ⟨u0, hu0⟩ := HF.out.there hmlt
      have hf0 := HF.out.free m
      have HF3 := Lib.hid (HF.out.put (Nat.le_refl m) (.int .i64 (-1)))
      have HN3 : Hid (Sq.asg (Sq.mt a b 0 0) m = none → Fill a b g (m + 1) (wr.setCell ⟨g, m, none⟩ (.int .i64 (-1)))) := Lib.hid (fun h => HF.out.set (by rw [h]; rfl))
      have hgB : ∀ (B : Nat), B ≤ g → Below B wr (wr.setCell ⟨g, m, none⟩ (.int .i64 (-1))) := fun B hB => (Below.refl _ _).setCell hB _
      have HT3 := Lib.hid (HT.out.keep (hgB _ hgw) (Nat.le_refl _))
      have HB3 := Lib.hid (HB.out.trans (hgB _ (by omega)))
      have HS3 : Hid (g < (wr.setCell ⟨g, m, none⟩ (.int .i64 (-1))).heap.size) := Lib.hid (by have := HS.out; simpa using this)
      clear hgB
      by_cases hnb : n < b.length
      · have hq : ((n : Int) == (b.length : Int)) = false := by simp; omega
        obtain ⟨ba, oa, rfl, hba, hca0⟩ := H.out.map_at hmlt
        obtain ⟨bb, ob, rfl, hbb, hcb0⟩ := H2.out.map_at hnb
        have HCA := Lib.hid ((HB3.out.cell (p := ⟨ba, oa + m, none⟩) hba).trans hca0); clear hca0
        have HCB := Lib.hid ((HB3.out.cell (p := ⟨bb, ob + n, none⟩) hbb).trans hcb0); clear hcb0
        go_wp2_with fail
        clear hu0 hf0
        generalize wr.setCell ⟨g, m, none⟩ (.int .i64 (-1)) = w2 at *
        have hca := HCA.out
        have hcb := HCB.out
        have wm : IntKind.i64.wrap ((m : Int) + 1) = (m : Int) + 1 := IntWalk.i64_in _ (by omega)
        have m0 : (0 : Int) ≤ (m : Int) := by omega
        have m1 : (0 : Int) ≤ (m : Int) + 1 := by omega
        have n0 : (0 : Int) ≤ (n : Int) := by omega
        have m2 : (m : Int) < (a.length : Int) := by omega
        have n2 : (n : Int) < (b.length : Int) := by omega
        have m3 : (m : Int) < (a.length : Int) + 1 := by omega
        have n3 : (n : Int) < (b.length : Int) + 1 := by omega
        have m4 : (m : Int) + 1 < (a.length : Int) + 1 := by omega
        have mtn : ((m : Int) + 1).toNat = m + 1 := by omega
        by_cases he : a[m] = b[n]
        · have he' := str_eq_t he
          have He : Hid (Sq.mt a b 0 0 = (done ++ [(m, n)]) ++ Sq.mt (a.drop (m + 1)) (b.drop (n + 1)) (m + 1) (n + 1)) := Lib.hid (by
            rw [hdone.out, drop_at hmlt, drop_at hnb, he, Sq.mt_eq]; simp)
          have hA : Sq.asg (Sq.mt a b 0 0) m = some n := Sq.asg_hit (done := done) (R := Sq.mt (a.drop (m + 1)) (b.drop (n + 1)) (m + 1) (n + 1)) (by rw [He.out]; simp)
          have HF4 := fun j : Nat => Lib.hid ((HF3.out.keep (below_drewN (Below.refl w2.heap.size _) j) HS3.out).set (u := (n : Int)) (by rw [hA]; rfl))
          have HF5 := Lib.hid HF4
          obtain ⟨u1, hu1⟩ := HF3.out.there hmlt
          have hf1 := HF3.out.free m
          clear he hA HF4
          go_wp2_with fail
          go_quiet (fail)
          go_wp2_with fail
          exact ⟨⟨m + 1, n + 1, done ++ [(m, n)], hmlt, hnb, by go_num, by go_num, He, Lib.hid (snoc_fst hdl.out), HF5.out _, Lib.hid ((HT3.out.keep (below_drewN (Below.refl w2.heap.size _) _) (by have := HS3.out; omega)).keep ((Below.refl _ _).setCell (Nat.le_refl g) _) hgw), Lib.hid ((below_drewN HB3.out _).setCell (by simp; omega) _), Lib.hid (by have := HS3.out; simpa using this)⟩, by simp [intOf]; omega⟩
        · have he' := str_eq_f he
          obtain ⟨r0, hr0⟩ : ∃ r, r = w.heap.size + 1 + m := ⟨_, rfl⟩
          obtain ⟨r1, hr1⟩ : ∃ r, r = w.heap.size + 1 + (m + 1) := ⟨_, rfl⟩
          have o0 := HT3.out.o (i := m) (by omega)
          have o1 := HT3.out.o (i := m + 1) (by omega)
          have c0 := HT3.out.cell (i := m) (k := n) (by omega) (by omega) trivial
          have c1 := HT3.out.cell (i := m + 1) (k := n) (by omega) (by omega) trivial
          rw [← hr0] at o0 c0
          rw [← hr1] at o1 c1
          clear hr0 hr1
          by_cases ht : Sq.lcs (a.drop (m + 1)) (b.drop n) = Sq.lcs (a.drop m) (b.drop n)
          · have He : Hid (Sq.mt a b 0 0 = done ++ Sq.mt (a.drop (m + 1)) (b.drop n) (m + 1) n) := Lib.hid (by
              have ht' := ht
              rw [drop_at hmlt, drop_at hnb] at ht'
              rw [hdone.out, drop_at hmlt, drop_at hnb, Sq.mt_left he ht'])
            have hq2 : ((Sq.lcs (a.drop (m + 1)) (b.drop n) : Int) == (Sq.lcs (a.drop m) (b.drop n) : Int)) = true := by rw [ht]; simp
            have HF4 := Lib.hid (HN3.out (Sq.asg_miss He.out hdl.out (Sq.mt_inc _ _ _ _)))
            clear ht he HN3
            go_wp2_with fail
            go_quiet (fail)
            go_wp2_with fail
            go_quiet (fail)
            clear wm
            go_wp2_with fail
            exact ⟨⟨m + 1, n, done, hmlt, hn, by go_num, rfl, He, Lib.hid (fun p hp => by have := hdl.out p hp; omega), Lib.hid (HF4.out.keep (Dr.below dr1 w2.heap.size) HS3.out), Lib.hid (HT3.out.keep (Dr.below dr1 w2.heap.size) (by have := HS3.out; omega)), Lib.hid (below_drewN HB3.out _), HS3⟩, by simp [intOf]; omega⟩
          · have He : Hid (Sq.mt a b 0 0 = done ++ Sq.mt (a.drop m) (b.drop (n + 1)) m (n + 1)) := Lib.hid (by
              have ht' := ht
              rw [drop_at hmlt, drop_at hnb] at ht'
              rw [hdone.out, drop_at hmlt, drop_at hnb, Sq.mt_right he ht'])
            have hq2 : ((Sq.lcs (a.drop (m + 1)) (b.drop n) : Int) == (Sq.lcs (a.drop m) (b.drop n) : Int)) = false := by rw [beq_eq_false_iff_ne]; intro e; exact ht (by exact_mod_cast e)
            clear ht he HN3
            go_wp2_with fail
            go_quiet (fail)
            go_wp2_with fail
            go_quiet (fail)
            clear wm
            go_wp2_with fail
            exact ⟨⟨m, n + 1, done, hm, hnb, rfl, by go_num, He, hdl, Lib.hid (HF3.out.keep (Dr.below dr1 w2.heap.size) HS3.out), Lib.hid (HT3.out.keep (Dr.below dr1 w2.heap.size) (by have := HS3.out; omega)), Lib.hid (below_drewN HB3.out _), HS3⟩, by simp [intOf]; omega⟩
      · have hq : ((n : Int) == (b.length : Int)) = true := by simp; omega
        have He : Hid (Sq.mt a b 0 0 = done ++ Sq.mt (a.drop (m + 1)) (b.drop n) (m + 1) n) := Lib.hid (by
          rw [hdone.out, List.drop_of_length_le (l := b) (by omega), Sq.mt_nil_right, Sq.mt_nil_right])
        have HF4 := Lib.hid (HN3.out (Sq.asg_miss He.out hdl.out (Sq.mt_inc _ _ _ _)))
        go_wp2_with fail
        exact ⟨⟨m + 1, n, done, hmlt, hn, by go_num, rfl, He, Lib.hid (fun p hp => by have := hdl.out p hp; omega), HF4, HT3, HB3, HS3⟩, by simp [intOf]; omega⟩
    · have hml : Hid ((Sq.mtI a b).length = a.length) := Lib.hid (Sq.mtI_len a b)
      go_wp2_with fail
      go_ret
      refine ⟨some ⟨g, 0, none⟩, a.length, rfl, hml.out.symm, Nat.le_refl _, by omega, HF.out.rd (by omega), HB.out⟩
end Go.Proofs.Ytkklpmfjbkapiaa
