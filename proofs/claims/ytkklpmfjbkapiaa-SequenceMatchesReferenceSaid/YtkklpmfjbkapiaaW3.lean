/- WALKS: the matching of the program. -/
import Derived.Test.YtkklpmfjbkapiaaW2
namespace Go.Proofs.Ytkklpmfjbkapiaa
open Go.RowKit

theorem lcs_i32 (a b : List ByteArray) (ha : a.length ≤ 2000) (i k : Nat) : (0 : Int) ≤ (Sq.lcs (a.drop i) (b.drop k) : Int) ∧ (Sq.lcs (a.drop i) (b.drop k) : Int) ≤ 2000 := by
  have := Sq.lcs_le_left (a.drop i) (b.drop k)
  simp only [List.length_drop] at this
  omega
theorem drop_at {l : List ByteArray} {i : Nat} (h : i < l.length) : l.drop i = l[i] :: l.drop (i + 1) := List.drop_eq_getElem_cons h

set_option maxHeartbeats 4000000 in
set_option maxRecDepth 100000 in
theorem match_any (A B : Option Addr) (c d : Nat) (a b : List ByteArray) (w : World) (ha : a.length ≤ 2000) (hb : b.length ≤ 2000)
    (h : Rd w A (a.map Value.string)) (h2 : Rd w B (b.map Value.string)) :
    Calls Try.prog 23 #[.slice A a.length c, .slice B b.length d] w fun e w' => ∃ v, e = .returned v ∧
      w'.ownsRow w.heap.size 44 2 v (Sq.mt a b 0 0).length ((Sq.mt a b 0 0).flatMap pairCells) ∧ Below w.heap.size w w' := by
  have H := Lib.hid h; clear h
  have H2 := Lib.hid h2; clear h2
  obtain ⟨N, hN⟩ : ∃ N, N = (a.length + 1) * (b.length + 1) := ⟨_, rfl⟩
  have hN2 : N ≤ 16000000 := by
    have : N ≤ 2001 * 2001 := by rw [hN]; exact Nat.mul_le_mul (by omega) (by omega)
    omega
  have hw : wrap64 (((a.length : Int) + 1) * ((b.length : Int) + 1)) = (N : Int) := by
    have e : (((a.length : Int) + 1) * ((b.length : Int) + 1)) = (N : Int) := by rw [hN]; simp
    rw [e]; exact IntWalk.wrap64_in _ ⟨by omega, by omega⟩
  have HN := Lib.hid hN; clear hN
  have hmk := mk_run (P := Try.prog) Try.underlying58 info_i32 N (by omega) (by omega)
  have HT := Lib.hid (tab_start a b N HN.out w)
  have HB : Hid (Below w.heap.size w (((w.alloc (.cells #[.int .i64 ((b.length : Int) + 1)] 3)).alloc (.cells (madeCells #[.int .i32 0] N) 21)).alloc
      (.cells #[.slice (some ⟨w.heap.size + 1, 0, none⟩) N N] 58))) := (((Below.refl _ _).alloc (Nat.le_refl _) _).alloc (by simp) _).alloc (by simp; omega) _
  have HZ : Hid (w.heap.size + 3 ≤ (((w.alloc (.cells #[.int .i64 ((b.length : Int) + 1)] 3)).alloc (.cells (madeCells #[.int .i32 0] N) 21)).alloc
      (.cells #[.slice (some ⟨w.heap.size + 1, 0, none⟩) N N] 58)).heap.size) := Lib.hid (by simp)
  obtain ⟨g5, hg5⟩ : ∃ g, g = w.heap.size := ⟨_, rfl⟩
  go_enter Try.func23, Try.ntmps23
  go_wp2_with fail
  clear hmk hw
  go_loopw [8] (fun i wr => ∃ m : Nat, m ≤ a.length ∧ i = .int .i64 ((m : Int) - 1) ∧ Hid (Tab a b N w.heap.size (w.heap.size + 1) (w.heap.size + 1 + 1) (fun i k => m ≤ i ∨ k = b.length) wr) ∧ Hid (Below w.heap.size w wr) ∧ Hid (w.heap.size + 3 ≤ wr.heap.size))
    (fun i _ => (intOf i + 1).toNat)
  case atStart => exact ⟨a.length, Nat.le_refl _, rfl, HT, HB, HZ⟩
  case round =>
    obtain ⟨m, hm, rfl, HT1, HB1, HZ1⟩ := hrel
    rcases m with _ | m
    · rw [show ((0 : Nat) : Int) - 1 = -1 by omega]
      have HT3 := HT1.out.weak (D' := fun _ _ => True) (fun i k hi hk _ => .inl (Nat.zero_le _))
      have HT4 := Lib.hid HT3
      clear HT1 HT3 HT HB HZ
      go_wp2_with fail
      go_loopw [10, 11, 12] (fun v i k ws => ∃ (m n : Nat) (done : List (Nat × Nat)), m ≤ a.length ∧ n ≤ b.length ∧ i = .int .i64 m ∧ k = .int .i64 n ∧ Hid (Sq.mt a b 0 0 = done ++ Sq.mt (a.drop m) (b.drop n) m n) ∧ done.length ≤ m ∧
          Hid (ws.ownsRow (w.heap.size + 3) 44 2 v done.length (done.flatMap pairCells)) ∧ Hid (Tab a b N w.heap.size (w.heap.size + 1) (w.heap.size + 1 + 1) (fun _ _ => True) ws) ∧ Hid (Below w.heap.size w ws) ∧ Hid (w.heap.size + 3 ≤ ws.heap.size))
        (fun _ i k _ => (a.length - (intOf i).toNat) + (b.length - (intOf k).toNat))
      case atStart => exact ⟨0, 0, [], Nat.zero_le _, Nat.zero_le _, rfl, rfl, Lib.hid (by simp), Nat.zero_le _, World.ownsRow_nil _ _ _ _, HT4, HB1, HZ1⟩
      case round =>
        rename_i v _ _ _ _ _
        obtain ⟨m, n, done, hm, hn, rfl, rfl, hdone, hdl, hown, HT5, HB5, HZ5⟩ := hrel
        by_cases hmlt : m < a.length
        · by_cases hnlt : n < b.length
          · have hai := HB5.out
            obtain ⟨ba, oa, rfl, hba, hca0⟩ := H.out.map_at hmlt
            obtain ⟨bb, ob, rfl, hbb, hcb0⟩ := H2.out.map_at hnlt
            have hca := (HB5.out.cell (p := ⟨ba, oa + m, none⟩) hba).trans hca0
            have hcb := (HB5.out.cell (p := ⟨bb, ob + n, none⟩) hbb).trans hcb0
            clear hca0 hcb0 hai
            have wm : IntKind.i64.wrap ((m : Int) + 1) = (m : Int) + 1 := IntWalk.i64_in _ (by omega)
            have wn : IntKind.i64.wrap ((n : Int) + 1) = (n : Int) + 1 := IntWalk.i64_in _ (by omega)
            have m0 : (0 : Int) ≤ (m : Int) := by omega
            have m1 : (0 : Int) ≤ (m : Int) + 1 := by omega
            have n0 : (0 : Int) ≤ (n : Int) := by omega
            have hs5 : w.heap.size + 3 ≤ wr.heap.size := HZ5.out
            by_cases he : a[m] = b[n]
            · have he' := str_eq_t he
              have He : Hid (Sq.mt a b 0 0 = (done ++ [(m, n)]) ++ Sq.mt (a.drop (m + 1)) (b.drop (n + 1)) (m + 1) (n + 1)) := Lib.hid (by
                rw [hdone.out, drop_at hmlt, drop_at hnlt, he, Sq.mt_eq]; simp)
              have hdl2 : done.length ≤ 2000 := by omega
              clear he wm wn
              go_wp2_with fail
              go_quiet (fail)
              go_wp2_with (at_builtin; refine wpList_app1 rfl (.tmp 102) (.tmp 106) 41 rfl Try.underlying41 info_pair rfl (by decide) (w.heap.size + 3) _ done.length (done.flatMap pairCells) _ _ rfl (by simp [Value.oneCell']) rfl rfl (by simp) (by exact hown.out) hs5 (by omega) (by omega) ?_; intro v1 w1 hown1 hb1)
              refine ⟨⟨m + 1, n + 1, done ++ [(m, n)], hmlt, hnlt, by go_num, by go_num, He, by simp; omega, ?_, (HT5.out.keep (Dr.below dr1 (w.heap.size + 3)) (by omega) (by omega) (by omega)).keep hb1 (by omega) (by omega) (by omega), below_drewN HB5.out _ |>.trans (hb1.mono (by omega)), ?_⟩, by simp [intOf]; omega⟩
              · show w1.ownsRow _ _ _ _ _ _
                have := hown1
                simpa [pairCells] using this
              · show _ ≤ _
                have := hb1.size
                simp at this; omega
            · have he' := str_eq_f he
              obtain ⟨q0, hq0⟩ : ∃ q, q = m * (b.length + 1) + n := ⟨_, rfl⟩
              obtain ⟨q1, hq1⟩ : ∃ q, q = (m + 1) * (b.length + 1) + n := ⟨_, rfl⟩
              have l0 : q0 < N := by rw [hq0]; exact tab_lt HN.out (by omega) (by omega)
              have l1 : q1 < N := by rw [hq1]; exact tab_lt HN.out (by omega) (by omega)
              have c0 := HT5.out.cell (i := m) (k := n) (by omega) (by omega) trivial
              have c1 := HT5.out.cell (i := m + 1) (k := n) (by omega) (by omega) trivial
              rw [← hq0] at c0
              rw [← hq1] at c1
              have E0 : Hid ((m : Int) * ((b.length : Int) + 1) + (n : Int) = (q0 : Int)) := Lib.hid (by rw [hq0]; simp)
              have E1 : Hid (((m : Int) + 1) * ((b.length : Int) + 1) + (n : Int) = (q1 : Int)) := Lib.hid (by rw [hq1]; simp)
              have T6 : ∀ k, (wr.drewN k).cell? ⟨w.heap.size + 1 + 1, 0, none⟩ = some (.slice (some ⟨w.heap.size + 1, 0, none⟩) N N) := fun _ => HT5.out.w6
              have T5 : ∀ k, (wr.drewN k).cell? ⟨w.heap.size, 0, none⟩ = some (.int .i64 ((b.length : Int) + 1)) := fun _ => HT5.out.w5
              have HN2 : N ≤ 16000000 := hN2
              clear hq0 hq1
              by_cases ht : Sq.lcs (a.drop (m + 1)) (b.drop n) = Sq.lcs (a.drop m) (b.drop n)
              · have He : Hid (Sq.mt a b 0 0 = done ++ Sq.mt (a.drop (m + 1)) (b.drop n) (m + 1) n) := Lib.hid (by
                  have ht' := ht
                  rw [drop_at hmlt, drop_at hnlt] at ht'
                  rw [hdone.out, drop_at hmlt, drop_at hnlt, Sq.mt_left he ht'])
                have hq : ((Sq.lcs (a.drop (m + 1)) (b.drop n) : Int) == (Sq.lcs (a.drop m) (b.drop n) : Int)) = true := by rw [ht]; simp
                clear ht he
                go_wp2_with fail
                go_quiet (fail)
                go_wp2_with fail
                go_quiet ((first | (with_reducible refine qs1 (at_any ((m : Int) + 1) (n : Int) b.length q1 N (w.heap.size + 1) (w.heap.size + 1 + 1) w.heap.size _ (T6 _) (T5 _) m1 n0 E1.out l1 HN2)) | (with_reducible refine qs1 (at_any (m : Int) (n : Int) b.length q0 N (w.heap.size + 1) (w.heap.size + 1 + 1) w.heap.size _ (T6 _) (T5 _) m0 n0 E0.out l0 HN2))))
                clear wm wn
                go_wp2
                exact ⟨⟨m + 1, n, done, hmlt, hn, by go_num, rfl, He, by omega, hown.out, HT5.out.keep (Dr.below dr1 (w.heap.size + 3)) (by omega) (by omega) (by omega), below_drewN HB5.out _, hs5⟩, by simp [intOf]; omega⟩
              · have He : Hid (Sq.mt a b 0 0 = done ++ Sq.mt (a.drop m) (b.drop (n + 1)) m (n + 1)) := Lib.hid (by
                  have ht' := ht
                  rw [drop_at hmlt, drop_at hnlt] at ht'
                  rw [hdone.out, drop_at hmlt, drop_at hnlt, Sq.mt_right he ht'])
                have hq : ((Sq.lcs (a.drop (m + 1)) (b.drop n) : Int) == (Sq.lcs (a.drop m) (b.drop n) : Int)) = false := by rw [beq_eq_false_iff_ne]; intro e; exact ht (by exact_mod_cast e)
                clear ht he
                go_wp2_with fail
                go_quiet (fail)
                go_wp2_with fail
                go_quiet ((first | (with_reducible refine qs1 (at_any ((m : Int) + 1) (n : Int) b.length q1 N (w.heap.size + 1) (w.heap.size + 1 + 1) w.heap.size _ (T6 _) (T5 _) m1 n0 E1.out l1 HN2)) | (with_reducible refine qs1 (at_any (m : Int) (n : Int) b.length q0 N (w.heap.size + 1) (w.heap.size + 1 + 1) w.heap.size _ (T6 _) (T5 _) m0 n0 E0.out l0 HN2))))
                clear wm wn
                go_wp2
                exact ⟨⟨m, n + 1, done, hm, hnlt, rfl, by go_num, He, hdl, hown.out, HT5.out.keep (Dr.below dr1 (w.heap.size + 3)) (by omega) (by omega) (by omega), below_drewN HB5.out _, hs5⟩, by simp [intOf]; omega⟩
          · have He : Hid (Sq.mt a b 0 0 = done) := Lib.hid (by rw [hdone.out, List.drop_of_length_le (l := b) (by omega), Sq.mt_nil_right, List.append_nil])
            go_wp2
            go_ret
            refine ⟨_, rfl, ?_, HB5.out⟩
            rw [He.out]; exact own_base hown.out (by omega)
        · have He : Hid (Sq.mt a b 0 0 = done) := Lib.hid (by rw [hdone.out, List.drop_of_length_le (l := a) (by omega), Sq.mt_nil_left, List.append_nil])
          go_wp2
          go_ret
          refine ⟨_, rfl, ?_, HB5.out⟩
          rw [He.out]; exact own_base hown.out (by omega)
    · rw [show ((m + 1 : Nat) : Int) - 1 = (m : Int) by omega]
      go_wp2_with fail
      go_loopw [9] (fun i ws => ∃ n : Nat, n ≤ b.length ∧ i = .int .i64 ((n : Int) - 1) ∧ Hid (Tab a b N w.heap.size (w.heap.size + 1) (w.heap.size + 1 + 1) (fun i k => m + 1 ≤ i ∨ (i = m ∧ n ≤ k) ∨ k = b.length) ws) ∧ Hid (Below w.heap.size w ws) ∧ Hid (w.heap.size + 3 ≤ ws.heap.size))
        (fun i _ => (intOf i + 1).toNat)
      case atStart => exact ⟨b.length, Nat.le_refl _, rfl, HT1.out.weak (fun i k hi hk h => by omega), HB1, HZ1⟩
      case round =>
        obtain ⟨n, hn, rfl, HT2, HB2, HZ2⟩ := hrel
        rcases n with _ | n
        · go_wp2
          exact ⟨⟨m, by omega, by go_num, HT2.out.weak (fun i k hi hk h => by omega), HB2, HZ2⟩, by simp [intOf]⟩
        · rw [show ((n + 1 : Nat) : Int) - 1 = (n : Int) by omega]
          have hmlt : m < a.length := hm
          have hnlt : n < b.length := hn
          obtain ⟨ba, oa, rfl, hba, hca0⟩ := H.out.map_at hmlt
          obtain ⟨bb, ob, rfl, hbb, hcb0⟩ := H2.out.map_at hnlt
          have hca := (HB2.out.cell (p := ⟨ba, oa + m, none⟩) hba).trans hca0
          have hcb := (HB2.out.cell (p := ⟨bb, ob + n, none⟩) hbb).trans hcb0
          clear hca0 hcb0
          have t6 := HT2.out.w6
          have t5 := HT2.out.w5
          obtain ⟨q0, hq0⟩ : ∃ q, q = m * (b.length + 1) + n := ⟨_, rfl⟩
          have l0 : q0 < N := by rw [hq0]; exact tab_lt HN.out (by omega) (by omega)
          have f0 := HT2.out.free q0
          obtain ⟨z0, hz0⟩ := HT2.out.some l0
          have E0 : Hid ((m : Int) * ((b.length : Int) + 1) + (n : Int) = (q0 : Int)) := Lib.hid (by rw [hq0]; simp)
          have Hq0 := Lib.hid hq0; clear hq0
          by_cases he : a[m] = b[n]
          · have he' := str_eq_t he
            obtain ⟨q3, hq3⟩ : ∃ q, q = (m + 1) * (b.length + 1) + (n + 1) := ⟨_, rfl⟩
            have l3 : q3 < N := by rw [hq3]; exact tab_lt HN.out (by omega) (by omega)
            have c3 := HT2.out.cell (i := m + 1) (k := n + 1) (by omega) (by omega) (by omega)
            rw [← hq3] at c3
            have b3 := lcs_i32 a b ha (m + 1) (n + 1)
            have E3 : Hid (((m : Int) + 1) * ((b.length : Int) + 1) + ((n : Int) + 1) = (q3 : Int)) := Lib.hid (by rw [hq3]; simp)
            have HL : Hid ((Sq.lcs (a.drop (m + 1)) (b.drop (n + 1)) : Int) + 1 = (Sq.lcs (a.drop m) (b.drop n) : Int)) := Lib.hid (by
              rw [drop_at hmlt, drop_at hnlt, he, Sq.lcs_eq]; simp)
            clear hq3 he
            go_wp2_with fail
            go_quiet (fail)
            go_wp2_with fail
            refine (at_any (m : Int) (n : Int) b.length q0 N (w.heap.size + 1) (w.heap.size + 1 + 1) w.heap.size _ (by exact t6) (by exact t5) (by omega) (by omega) E0.out l0 hN2).mono ?_
            rintro e w' ⟨rfl, rfl⟩
            go_wp2_with fail
            refine (at_any ((m : Int) + 1) ((n : Int) + 1) b.length q3 N (w.heap.size + 1) (w.heap.size + 1 + 1) w.heap.size _ (by exact t6) (by exact t5) (by omega) (by omega) E3.out l3 hN2).mono ?_
            rintro e w' ⟨rfl, rfl⟩
            go_wp2
            refine ⟨⟨n, by omega, by go_num, (HT2.out.keep ((Dr.below dr1 wr.heap.size)) (by have := HZ2.out; omega) (by have := HZ2.out; omega) (by have := HZ2.out; omega)).set' HN.out (by omega) (by omega) (by omega) (by omega) Hq0.out HL.out (fun i' k' _ _ h => by omega) rfl, (below_drewN HB2.out _).setCell (by simp) _, by have := HZ2.out; simpa [Hid] using this⟩, by simp [intOf]⟩
          · have he' := str_eq_f he
            obtain ⟨q1, hq1⟩ : ∃ q, q = (m + 1) * (b.length + 1) + n := ⟨_, rfl⟩
            obtain ⟨q2, hq2⟩ : ∃ q, q = m * (b.length + 1) + (n + 1) := ⟨_, rfl⟩
            have l1 : q1 < N := by rw [hq1]; exact tab_lt HN.out (by omega) (by omega)
            have l2 : q2 < N := by rw [hq2]; exact tab_lt HN.out (by omega) (by omega)
            have c1 := HT2.out.cell (i := m + 1) (k := n) (by omega) (by omega) (by omega)
            have c2 := HT2.out.cell (i := m) (k := n + 1) (by omega) (by omega) (by omega)
            rw [← hq1] at c1
            rw [← hq2] at c2
            have b1 := lcs_i32 a b ha (m + 1) n
            have b2 := lcs_i32 a b ha m (n + 1)
            have E1 : Hid (((m : Int) + 1) * ((b.length : Int) + 1) + (n : Int) = (q1 : Int)) := Lib.hid (by rw [hq1]; simp)
            have E2 : Hid ((m : Int) * ((b.length : Int) + 1) + ((n : Int) + 1) = (q2 : Int)) := Lib.hid (by rw [hq2]; simp)
            have HL : Hid (Sq.lcs (a.drop m) (b.drop n) = max (Sq.lcs (a.drop (m + 1)) (b.drop n)) (Sq.lcs (a.drop m) (b.drop (n + 1)))) := Lib.hid (by
              rw [drop_at hmlt, drop_at hnlt, Sq.lcs_ne he])
            clear hq1 hq2 he
            go_wp2_with fail
            go_quiet (fail)
            go_wp2_with fail
            have wm : IntKind.i64.wrap ((m : Int) + 1) = (m : Int) + 1 := IntWalk.i64_in _ (by omega)
            have wn : IntKind.i64.wrap ((n : Int) + 1) = (n : Int) + 1 := IntWalk.i64_in _ (by omega)
            have m0 : (0 : Int) ≤ (m : Int) := by omega
            have m1 : (0 : Int) ≤ (m : Int) + 1 := by omega
            have n0 : (0 : Int) ≤ (n : Int) := by omega
            have n1 : (0 : Int) ≤ (n : Int) + 1 := by omega
            have HN2 : N ≤ 16000000 := hN2
            refine wp_region_still_tail 20 (by kernel_rfl) (by kernel_rfl) ?_
            simp only [List.take_succ_cons, List.take_zero, List.drop_succ_cons, List.drop_zero]
            change wpStill _ _ (wr.drewN nq).drew (fun a' => wpList _ _ _ _ a' (wr.drewN nq).drew) _ _
            have D6 : ((wr.drewN nq).drew).cell? ⟨w.heap.size + 1 + 1, 0, none⟩ = some (.slice (some ⟨w.heap.size + 1, 0, none⟩) N N) := t6
            have D5 : ((wr.drewN nq).drew).cell? ⟨w.heap.size, 0, none⟩ = some (.int .i64 ((b.length : Int) + 1)) := t5
            have D1 : ((wr.drewN nq).drew).cell? ⟨w.heap.size + 1, q1, none⟩ = _ := c1
            have D2 : ((wr.drewN nq).drew).cell? ⟨w.heap.size + 1, q2, none⟩ = _ := c2
            have D0 : ((wr.drewN nq).drew).cell? ⟨w.heap.size + 1, q0, none⟩ = _ := hz0
            have DF : ((wr.drewN nq).drew).frozen? ⟨w.heap.size + 1, q0, none⟩ = false := f0
            have DB : Hid (Below wr.heap.size wr ((wr.drewN nq).drew)) := (below_drewN (Below.refl _ _) _).drew
            clear t6 t5 c1 c2 hz0 f0 hca hcb
            generalize (wr.drewN nq).drew = w2 at *
            iterate 3 still_step
            still_call (at_still (m : Int) (n : Int) b.length q0 N (w.heap.size + 1) (w.heap.size + 1 + 1) w.heap.size _ D6 D5 m0 n0 E0.out l0 hN2)
            iterate 4 still_step
            still_call (at_still ((m : Int) + 1) (n : Int) b.length q1 N (w.heap.size + 1) (w.heap.size + 1 + 1) w.heap.size _ D6 D5 m1 n0 E1.out l1 hN2)
            iterate 6 still_step
            still_call (at_still (m : Int) ((n : Int) + 1) b.length q2 N (w.heap.size + 1) (w.heap.size + 1 + 1) w.heap.size _ D6 D5 m0 n1 E2.out l2 hN2)
            iterate 4 still_step
            refine wpStill_nil ?_
            go_wp2
            refine ⟨⟨n, by omega, by go_num, (HT2.out.keep DB.out (by have := HZ2.out; omega) (by have := HZ2.out; omega) (by have := HZ2.out; omega)).set' HN.out (by omega) (by omega) (by omega) (by omega) Hq0.out ?_ (fun i' k' _ _ h => by omega) rfl, (HB2.out.trans (DB.out.mono (by have := HZ2.out; omega))).setCell (by simp) _, ?_⟩, by simp [intOf]⟩
            · have h := HL.out
              rw [h]
              omega
            · have := HZ2.out
              have h := DB.out.size
              show _ ≤ _
              simp
              omega
end Go.Proofs.Ytkklpmfjbkapiaa
