/- WALK: the reference's Merge. -/
import Derived.Test.YtkklpmfjbkapiaaR3
namespace Go.Proofs.Ytkklpmfjbkapiaa
open Go.RowKit

theorem Sl.cut {w : World} {A : Option Addr} {n c : Nat} {l : List ByteArray} (h : Sl w A n c l) (lo hi : Nat) (h1 : lo ≤ hi) (h2 : hi ≤ n) : Sl w (if c = lo then A else A.map (·.add lo)) (hi - lo) (c - lo) ((l.take hi).drop lo) := by
  obtain ⟨k1, k2, k3, k4⟩ := h
  refine ⟨by simp; omega, by omega, by omega, ?_⟩
  have := k4.cut lo hi c h1 (by simp; omega)
  rwa [← List.map_take, ← List.map_drop] at this
theorem Sl.cutE {w : World} {A : Option Addr} {n c lo : Nat} {l : List ByteArray} (h : Sl w A n c l) (e : c = lo) (hi : Nat) (h1 : lo ≤ hi) (h2 : hi ≤ n) : Sl w A (hi - lo) 0 ((l.take hi).drop lo) := by
  have := h.cut lo hi h1 h2
  rw [if_pos e, e, Nat.sub_self] at this; exact this
theorem Sl.cutF {w : World} {A : Option Addr} {n c lo : Nat} {l : List ByteArray} (h : Sl w A n c l) (e : c = lo) (hi : Nat) (h1 : lo ≤ hi) (h2 : hi ≤ n) : Sl w A (hi - lo) (c - lo) ((l.take hi).drop lo) := by
  have := h.cut lo hi h1 h2
  rw [if_pos e] at this; exact this
theorem Sl.cutN {w : World} {A : Option Addr} {n c lo : Nat} {l : List ByteArray} (h : Sl w A n c l) (e : ¬ c = lo) (hi : Nat) (h1 : lo ≤ hi) (h2 : hi ≤ n) : Sl w (A.map (fun x => x.add lo)) (hi - lo) (c - lo) ((l.take hi).drop lo) := by
  have := h.cut lo hi h1 h2
  rw [if_neg e] at this; exact this
theorem Sl.drewN {w : World} {A : Option Addr} {n c : Nat} {l : List ByteArray} (h : Sl w A n c l) (m : Nat) : Sl (w.drewN m) A n c l := ⟨h.1, h.2.1, h.2.2.1, h.2.2.2.drewN m⟩
theorem own_cast {w : World} {base : Nat} {e : TypeId} {size n n' : Nat} {v : Value} {xs xs' : List Value} (h : w.ownsRow base e size v n xs) (hn : n = n') (hx : xs = xs') : w.ownsRow base e size v n' xs' := by subst hn hx; exact h
theorem Sl.keep {w w' : World} {B : Nat} {A : Option Addr} {n c : Nat} {l : List ByteArray} (h : Sl w A n c l) (hb : Below B w w') (hB : w.heap.size ≤ B) : Sl w' A n c l := h.below (hb.mono hB)
theorem chunk_1 {b o t : List ByteArray} (h : sameF b o = true) : Sq.chunk b o t = some t := by
  have : b = o := by simpa [sameF] using h
  subst this; exact Sq.chunk_base _ _
theorem chunk_2 {b o t : List ByteArray} (h : sameF b o = false) (h2 : sameF b t = true) : Sq.chunk b o t = some o := by
  have e1 : b ≠ o := by simpa [sameF] using h
  have e2 : b = t := by simpa [sameF] using h2
  subst e2; exact Sq.chunk_base' _ _
theorem chunk_3 {b o t : List ByteArray} (h : sameF b o = false) (h3 : sameF o t = true) : Sq.chunk b o t = some o := by
  have e2 : o = t := by simpa [sameF] using h3
  subst e2; exact Sq.chunk_both _ _
theorem chunk_0 {b o t : List ByteArray} (h : sameF b o = false) (h2 : sameF b t = false) (h3 : sameF o t = false) : Sq.chunk b o t = none := by
  have e1 : b ≠ o := by simpa [sameF] using h
  have e2 : b ≠ t := by simpa [sameF] using h2
  have e3 : o ≠ t := by simpa [sameF] using h3
  unfold Sq.chunk
  rw [if_neg (fun e => e1 e.symm), if_neg (by rintro (e | e); exact e2 e.symm; exact e3 e.symm)]

theorem x_eq {b o t : List ByteArray} {x i j k : Nat} {ou : List ByteArray} (e : x = b.length) (h : Sq.RC b o t x i j k ou) : Sq.RC b o t b.length i j k ou := by subst e; exact h
theorem retM_own {w w' : World} {b o t l : List ByteArray} {e : Ending} {B : Nat} (h : Sq.mrg b o t = some l) (h2 : ∃ v : Value, e = .returned (.tuple #[v, .bool true]) ∧ w'.ownsRow B 9 1 v l.length (l.map Value.string)) (hb : Below w.heap.size w w') : RetM w b o t e w' := by
  refine ⟨hb, ?_⟩
  rw [h]
  obtain ⟨v, rfl, ho⟩ := h2
  obtain ⟨A, c, rfl, k1, k2⟩ := own_form ho
  exact ⟨A, l.length, c, rfl, rfl, k1, by simpa [maxLen] using k2, Rd.of_own ho⟩
theorem retM_none {w w' : World} {b o t : List ByteArray} {e : Ending} (h : Sq.mrg b o t = none) (h2 : e = .returned (.tuple #[.slice none 0 0, .bool false])) (hb : Below w.heap.size w w') : RetM w b o t e w' := by
  refine ⟨hb, ?_⟩
  rw [h]; exact h2

set_option maxHeartbeats 8000000 in
set_option maxRecDepth 100000 in
theorem rmerge_sl (A B C : Option Addr) (n1 n2 n3 c1 c2 c3 : Nat) (b o t : List ByteArray) (w : World) (h1 : Sl w A n1 c1 b) (h2 : Sl w B n2 c2 o) (h3 : Sl w C n3 c3 t) (lb : b.length ≤ 2000) (lo : o.length ≤ 2000) (lt : t.length ≤ 2000) :
    Calls Try.prog 12 #[.slice A n1 c1, .slice B n2 c2, .slice C n3 c3] w (RetM w b o t) := by
  have S1 := Lib.hid h1; have S2 := Lib.hid h2; have S3 := Lib.hid h3
  obtain ⟨rfl, h11, h12, -⟩ := h1
  obtain ⟨rfl, h21, h22, -⟩ := h2
  obtain ⟨rfl, h31, h32, -⟩ := h3
  go_enter Try.func12, Try.ntmps12
  go_wp2_with fail
  refine (rshort_any _ _ _ _ lb).mono ?_
  rintro e w' ⟨rfl, rfl⟩
  go_wp2_with fail
  refine (rshort_any _ _ _ _ lo).mono ?_
  rintro e w' ⟨rfl, rfl⟩
  go_wp2_with fail
  refine (rshort_any _ _ _ _ lt).mono ?_
  rintro e w' ⟨rfl, rfl⟩
  go_wp2_with fail
  refine (rmatch_any A B c1 c2 b o _ lb lo S1.out.2.2.2 S2.out.2.2.2).mono ?_
  rintro e w1 ⟨A1, d1, rfl, -, hd1, hd2, hrd, hb1⟩
  have HM := Lib.hid hrd; have B1 := Lib.hid hb1; clear hrd hb1
  go_wp2_with fail
  refine (rmatch_any A C c1 c3 b t _ lb lt (S1.out.below B1.out).2.2.2 (S3.out.below B1.out).2.2.2).mono ?_
  rintro e w2 ⟨A2, e1, rfl, -, he1, he2, hrd, hb2⟩
  have HM1 := Lib.hid (HM.out.below hb2)
  have HM2 := Lib.hid hrd; have B2 := Lib.hid (below_chain B1.out hb2 B1.out.size); clear hrd hb2 HM
  have T1 := Lib.hid (S1.out.below B2.out); have T2_ := Lib.hid (S2.out.below B2.out); have T3 := Lib.hid (S3.out.below B2.out)
  clear S1 S2 S3 B1
  go_wp2_with fail
  go_loopw [10, 11, 12, 13, 14] (fun v i j k x wr => ∃ (xx ii jj kk : Nat) (ou : List ByteArray), xx ≤ b.length + 1 ∧ x = .int .i64 xx ∧ i = .int .i64 ii ∧ j = .int .i64 jj ∧ k = .int .i64 kk ∧ Hid (Sq.RC b o t xx ii jj kk ou) ∧
      Hid (wr.ownsRow w2.heap.size 9 1 v ou.length (ou.map Value.string)) ∧ Hid (Below w2.heap.size w2 wr)) (fun _ _ _ _ x _ => b.length + 1 - (intOf x).toNat)
  case atStart => exact ⟨0, 0, 0, 0, [], Nat.zero_le _, rfl, rfl, rfl, rfl, Sq.rc_start b o t, World.ownsRow_nil _ _ _ _, Below.refl _ _⟩
  case round =>
    obtain ⟨x, i, j, k, ou, hx, rfl, rfl, rfl, rfl, hrc, hown, hbel⟩ := hrel
    have hsz : w2.heap.size ≤ wr.heap.size := hbel.out.size
    have U1 := Lib.hid (T1.out.keep hbel.out (Nat.le_refl _)); have U2 := Lib.hid (T2_.out.keep hbel.out (Nat.le_refl _)); have U3 := Lib.hid (T3.out.keep hbel.out (Nat.le_refl _))
    by_cases hlt : x < b.length
    · obtain ⟨g, off, rfl, hg, hcg0⟩ := RetI.at_ (w' := w2) (n := 0) HM1.out hlt
      have hcg := (hbel.out.cell (p := ⟨g, off + x, none⟩) hg).trans hcg0; clear hcg0
      obtain ⟨g2, off2, rfl, hg2, hch0⟩ := RetI.at_ (w' := w2) (n := 0) HM2.out hlt
      have hch := (hbel.out.cell (p := ⟨g2, off2 + x, none⟩) hg2).trans hch0; clear hch0
      have hle : decide ((x : Int) ≤ (b.length : Int)) = true := by simp; omega
      rcases hq : Sq.asg (Sq.mt b o 0 0) x with _ | p
      · have HRC := Lib.hid (Sq.rc_skip hrc.out hlt (.inl hq))
        rw [hq] at hcg
        simp only [Sq.idx] at hcg
        clear hq hch
        go_wp2_with fail
        exact ⟨⟨x + 1, i, j, k, ou, by omega, by go_num, rfl, rfl, rfl, HRC, hown, hbel⟩, by simp [intOf]; omega⟩
      · rw [hq] at hcg
        simp only [Sq.idx] at hcg
        have HQ := Lib.hid hq; clear hq
        rcases hr : Sq.asg (Sq.mt b t 0 0) x with _ | q
        · have HRC := Lib.hid (Sq.rc_skip hrc.out hlt (.inr hr))
          rw [hr] at hch
          simp only [Sq.idx] at hch
          clear hr
          go_wp2_with fail
          exact ⟨⟨x + 1, i, j, k, ou, by omega, by go_num, rfl, rfl, rfl, HRC, hown, hbel⟩, by simp [intOf]; omega⟩
        · rw [hr] at hch
          simp only [Sq.idx] at hch
          have HR := Lib.hid hr; clear hr
          obtain ⟨a1, a2, a3, a4, a5, a6, a7, a8⟩ := Sq.rc_mid hrc.out hlt HQ.out HR.out lo lt
          have HN := Lib.hid a7; have HS := Lib.hid a8; clear a7 a8
          go_wp2_with fail
          go_quiet (fail)
          go_wp2_with fail
          have q1 : (0 : Int) ≤ (i : Int) := by omega
          have q2 : (i : Int) ≤ (x : Int) := by omega
          have q3 : (x : Int) ≤ (c1 : Int) := by omega
          have q4 : (0 : Int) ≤ (j : Int) := by omega
          have q5 : (j : Int) ≤ (p : Int) := by omega
          have q6 : (p : Int) ≤ (c2 : Int) := by omega
          have q7 : (0 : Int) ≤ (k : Int) := by omega
          have q8 : (k : Int) ≤ (q : Int) := by omega
          have q9 : (q : Int) ≤ (c3 : Int) := by omega
          go_quiet (fail)
          all_goals
            rcases s1 : sameF ((b.take x).drop i) ((o.take p).drop j) with _ | _
            · have E1 := Lib.hid s1; clear s1
              go_wp2_with fail
              refine (same_sl false _ _ _ _ _ _ _ _ _ (by (first | exact (Sl.cutF U1.out (by omega) x (by omega) (by omega)).drewN _ | exact (Sl.cutN U1.out (by omega) x (by omega) (by omega)).drewN _)) (by (first | exact (Sl.cutF U2.out (by omega) p (by omega) (by omega)).drewN _ | exact (Sl.cutN U2.out (by omega) p (by omega) (by omega)).drewN _)) E1.out).mono ?_
              rintro e w' ⟨rfl, hd⟩; obtain ⟨nd, rfl⟩ := hd
              rcases s2 : sameF ((b.take x).drop i) ((t.take q).drop k) with _ | _
              · have E2 := Lib.hid s2; clear s2
                go_wp2_with fail
                refine (same_sl false _ _ _ _ _ _ _ _ _ (by (first | exact (Sl.cutF U1.out (by omega) x (by omega) (by omega)).drewN _ | exact (Sl.cutN U1.out (by omega) x (by omega) (by omega)).drewN _)) (by (first | exact (Sl.cutF U3.out (by omega) q (by omega) (by omega)).drewN _ | exact (Sl.cutN U3.out (by omega) q (by omega) (by omega)).drewN _)) E2.out).mono ?_
                rintro e w' ⟨rfl, hd⟩; obtain ⟨nd, rfl⟩ := hd
                rcases s3 : sameF ((o.take p).drop j) ((t.take q).drop k) with _ | _
                · have E3 := Lib.hid s3; clear s3
                  go_wp2_with fail
                  refine (same_sl false _ _ _ _ _ _ _ _ _ (by (first | exact (Sl.cutF U2.out (by omega) p (by omega) (by omega)).drewN _ | exact (Sl.cutN U2.out (by omega) p (by omega) (by omega)).drewN _)) (by (first | exact (Sl.cutF U3.out (by omega) q (by omega) (by omega)).drewN _ | exact (Sl.cutN U3.out (by omega) q (by omega) (by omega)).drewN _)) E3.out).mono ?_
                  rintro e w' ⟨rfl, hd⟩; obtain ⟨nd, rfl⟩ := hd
                  have HNN := Lib.hid (HN.out (chunk_0 E1.out E2.out E3.out))
                  go_wp2
                  go_ret2
                  exact retM_none HNN.out rfl (below_drewN (B2.out.trans (hbel.out.mono B2.out.size)) _)
                · have E3 := Lib.hid s3; clear s3
                  go_wp2_with fail
                  refine (same_sl true _ _ _ _ _ _ _ _ _ (by (first | exact (Sl.cutF U2.out (by omega) p (by omega) (by omega)).drewN _ | exact (Sl.cutN U2.out (by omega) p (by omega) (by omega)).drewN _)) (by (first | exact (Sl.cutF U3.out (by omega) q (by omega) (by omega)).drewN _ | exact (Sl.cutN U3.out (by omega) q (by omega) (by omega)).drewN _)) E3.out).mono ?_
                  rintro e w' ⟨rfl, hd⟩; obtain ⟨nd, rfl⟩ := hd
                  have HC := Lib.hid (HS.out _ (chunk_3 E1.out E3.out))
                  have hcl : ((o.take p).drop j).length = p - j := by simp <;> omega
                  have HCL := Lib.hid hcl; clear hcl
                  obtain ⟨ba, oa, rfl, hba, hca0⟩ := T1.out.2.2.2.map_at hlt
                  have HCA := Lib.hid hca0; clear hca0
                  go_wp2_with (first | (at_builtin; refine wpList_appR rfl (.tmp 99) (.tmp 100) 22 rfl Try.underlying22 info_str rfl w2.heap.size _ _ _ _ _ _ (((o.take p).drop j).map Value.string) (str_one _) rfl rfl (by exact hown.out) (by (first | exact ((Sl.cutF U2.out (by omega) p (by omega) (by omega)).drewN _).2.2.2 | exact ((Sl.cutN U2.out (by omega) p (by omega) (by omega)).drewN _).2.2.2)) (by rw [List.length_map]; exact HCL.out) hsz (by omega) (by omega) ?_; intro v1 w3 hown1 hb3; have HO := Lib.hid hown1; have HB3 : Hid (Below w2.heap.size w2 w3) := Lib.hid ((below_drewN hbel.out _).trans hb3); clear hown1 hb3; have hca := (HB3.out.cell (p := ⟨ba, oa + x, none⟩) hba).trans HCA.out; have hsz3 : w2.heap.size ≤ w3.heap.size := HB3.out.size; have hba3 : ba < w3.heap.size := Nat.lt_of_lt_of_le hba hsz3) | (at_builtin; refine wpList_app1 rfl (.tmp 106) (.tmp 111) 22 rfl Try.underlying22 info_str rfl (by decide) w2.heap.size _ _ _ _ _ rfl (by simp [Value.oneCell']) rfl rfl (by simp) (by exact HO.out) hsz3 (by omega) (by omega) ?_; intro v2 w4 hown2 hb4))
                  have HO2 := Lib.hid (own_cast hown2 (show _ = (ou ++ ((o.take p).drop j) ++ [b[x]]).length by have := HCL.out; simp only [List.length_append, List.length_singleton]; omega) (show _ = (ou ++ ((o.take p).drop j) ++ [b[x]]).map Value.string by simp))
                  exact ⟨⟨x + 1, x + 1, p + 1, q + 1, _, by omega, by go_num, by go_num, by go_num, by go_num, Lib.hid HC.out.2, HO2, Lib.hid (HB3.out.trans hb4)⟩, by simp [intOf] <;> omega⟩
              · have E2 := Lib.hid s2; clear s2
                go_wp2_with fail
                refine (same_sl true _ _ _ _ _ _ _ _ _ (by (first | exact (Sl.cutF U1.out (by omega) x (by omega) (by omega)).drewN _ | exact (Sl.cutN U1.out (by omega) x (by omega) (by omega)).drewN _)) (by (first | exact (Sl.cutF U3.out (by omega) q (by omega) (by omega)).drewN _ | exact (Sl.cutN U3.out (by omega) q (by omega) (by omega)).drewN _)) E2.out).mono ?_
                rintro e w' ⟨rfl, hd⟩; obtain ⟨nd, rfl⟩ := hd
                have HC := Lib.hid (HS.out _ (chunk_2 E1.out E2.out))
                have hcl : ((o.take p).drop j).length = p - j := by simp <;> omega
                have HCL := Lib.hid hcl; clear hcl
                obtain ⟨ba, oa, rfl, hba, hca0⟩ := T1.out.2.2.2.map_at hlt
                have HCA := Lib.hid hca0; clear hca0
                go_wp2_with (first | (at_builtin; refine wpList_appR rfl (.tmp 99) (.tmp 100) 22 rfl Try.underlying22 info_str rfl w2.heap.size _ _ _ _ _ _ (((o.take p).drop j).map Value.string) (str_one _) rfl rfl (by exact hown.out) (by (first | exact ((Sl.cutF U2.out (by omega) p (by omega) (by omega)).drewN _).2.2.2 | exact ((Sl.cutN U2.out (by omega) p (by omega) (by omega)).drewN _).2.2.2)) (by rw [List.length_map]; exact HCL.out) hsz (by omega) (by omega) ?_; intro v1 w3 hown1 hb3; have HO := Lib.hid hown1; have HB3 : Hid (Below w2.heap.size w2 w3) := Lib.hid ((below_drewN hbel.out _).trans hb3); clear hown1 hb3; have hca := (HB3.out.cell (p := ⟨ba, oa + x, none⟩) hba).trans HCA.out; have hsz3 : w2.heap.size ≤ w3.heap.size := HB3.out.size; have hba3 : ba < w3.heap.size := Nat.lt_of_lt_of_le hba hsz3) | (at_builtin; refine wpList_app1 rfl (.tmp 106) (.tmp 111) 22 rfl Try.underlying22 info_str rfl (by decide) w2.heap.size _ _ _ _ _ rfl (by simp [Value.oneCell']) rfl rfl (by simp) (by exact HO.out) hsz3 (by omega) (by omega) ?_; intro v2 w4 hown2 hb4))
                have HO2 := Lib.hid (own_cast hown2 (show _ = (ou ++ ((o.take p).drop j) ++ [b[x]]).length by have := HCL.out; simp only [List.length_append, List.length_singleton]; omega) (show _ = (ou ++ ((o.take p).drop j) ++ [b[x]]).map Value.string by simp))
                exact ⟨⟨x + 1, x + 1, p + 1, q + 1, _, by omega, by go_num, by go_num, by go_num, by go_num, Lib.hid HC.out.2, HO2, Lib.hid (HB3.out.trans hb4)⟩, by simp [intOf] <;> omega⟩
            · have E1 := Lib.hid s1; clear s1
              go_wp2_with fail
              refine (same_sl true _ _ _ _ _ _ _ _ _ (by (first | exact (Sl.cutF U1.out (by omega) x (by omega) (by omega)).drewN _ | exact (Sl.cutN U1.out (by omega) x (by omega) (by omega)).drewN _)) (by (first | exact (Sl.cutF U2.out (by omega) p (by omega) (by omega)).drewN _ | exact (Sl.cutN U2.out (by omega) p (by omega) (by omega)).drewN _)) E1.out).mono ?_
              rintro e w' ⟨rfl, hd⟩; obtain ⟨nd, rfl⟩ := hd
              have HC := Lib.hid (HS.out _ (chunk_1 E1.out))
              have hcl : ((t.take q).drop k).length = q - k := by simp <;> omega
              have HCL := Lib.hid hcl; clear hcl
              obtain ⟨ba, oa, rfl, hba, hca0⟩ := T1.out.2.2.2.map_at hlt
              have HCA := Lib.hid hca0; clear hca0
              go_wp2_with (first | (at_builtin; refine wpList_appR rfl (.tmp 88) (.tmp 89) 22 rfl Try.underlying22 info_str rfl w2.heap.size _ _ _ _ _ _ (((t.take q).drop k).map Value.string) (str_one _) rfl rfl (by exact hown.out) (by (first | exact ((Sl.cutF U3.out (by omega) q (by omega) (by omega)).drewN _).2.2.2 | exact ((Sl.cutN U3.out (by omega) q (by omega) (by omega)).drewN _).2.2.2)) (by rw [List.length_map]; exact HCL.out) hsz (by omega) (by omega) ?_; intro v1 w3 hown1 hb3; have HO := Lib.hid hown1; have HB3 : Hid (Below w2.heap.size w2 w3) := Lib.hid ((below_drewN hbel.out _).trans hb3); clear hown1 hb3; have hca := (HB3.out.cell (p := ⟨ba, oa + x, none⟩) hba).trans HCA.out; have hsz3 : w2.heap.size ≤ w3.heap.size := HB3.out.size; have hba3 : ba < w3.heap.size := Nat.lt_of_lt_of_le hba hsz3) | (at_builtin; refine wpList_app1 rfl (.tmp 106) (.tmp 111) 22 rfl Try.underlying22 info_str rfl (by decide) w2.heap.size _ _ _ _ _ rfl (by simp [Value.oneCell']) rfl rfl (by simp) (by exact HO.out) hsz3 (by omega) (by omega) ?_; intro v2 w4 hown2 hb4))
              have HO2 := Lib.hid (own_cast hown2 (show _ = (ou ++ ((t.take q).drop k) ++ [b[x]]).length by have := HCL.out; simp only [List.length_append, List.length_singleton]; omega) (show _ = (ou ++ ((t.take q).drop k) ++ [b[x]]).map Value.string by simp))
              exact ⟨⟨x + 1, x + 1, p + 1, q + 1, _, by omega, by go_num, by go_num, by go_num, by go_num, Lib.hid HC.out.2, HO2, Lib.hid (HB3.out.trans hb4)⟩, by simp [intOf] <;> omega⟩
    · by_cases hxe : x = b.length
      · have hle : decide ((x : Int) ≤ (b.length : Int)) = true := by simp; omega
        obtain ⟨a1, a2, a3, a6, a7, a8⟩ := Sq.rc_last (x_eq hxe hrc.out) lo lt
        have HXE := Lib.hid hxe
        have e0 : ∀ l : List ByteArray, l.take l.length = l := fun l => List.take_length
        have HN : Hid (Sq.chunk ((b.take b.length).drop i) ((o.take o.length).drop j) ((t.take t.length).drop k) = none → Sq.mrg b o t = none) := Lib.hid (by rw [e0, e0, e0]; exact a7)
        have HS : Hid (∀ c, Sq.chunk ((b.take b.length).drop i) ((o.take o.length).drop j) ((t.take t.length).drop k) = some c → c.length ≤ 2000 ∧ ∀ i' j' k', Sq.RC b o t (b.length + 1) i' j' k' (ou ++ c)) := Lib.hid (by rw [e0, e0, e0]; exact a8)
        clear a7 a8 e0
        subst hxe
        go_wp2_with fail
        have q1 : (0 : Int) ≤ (i : Int) := by omega
        have q2 : (i : Int) ≤ (b.length : Int) := by omega
        have q3 : (b.length : Int) ≤ (c1 : Int) := by omega
        have q4 : (0 : Int) ≤ (j : Int) := by omega
        have q5 : (j : Int) ≤ (o.length : Int) := by omega
        have q6 : (o.length : Int) ≤ (c2 : Int) := by omega
        have q7 : (0 : Int) ≤ (k : Int) := by omega
        have q8 : (k : Int) ≤ (t.length : Int) := by omega
        have q9 : (t.length : Int) ≤ (c3 : Int) := by omega
        rcases Classical.propComplete (c1 = i) with z1 | z1 <;> rcases Classical.propComplete (c2 = j) with z2 | z2 <;> rcases Classical.propComplete (c3 = k) with z3 | z3
        all_goals
          go_quiet (fail)
          rcases s1 : sameF ((b.take b.length).drop i) ((o.take o.length).drop j) with _ | _
          · have E1 := Lib.hid s1; clear s1
            go_wp2_with fail
            refine (same_sl false _ _ _ _ _ _ _ _ _ (by (first | exact (Sl.cutF U1.out (of_eq_true z1) b.length (by omega) (by omega)).drewN _ | exact (Sl.cutN U1.out (of_eq_false z1) b.length (by omega) (by omega)).drewN _)) (by (first | exact (Sl.cutF U2.out (of_eq_true z2) o.length (by omega) (by omega)).drewN _ | exact (Sl.cutN U2.out (of_eq_false z2) o.length (by omega) (by omega)).drewN _)) E1.out).mono ?_
            rintro e w' ⟨rfl, hd⟩; obtain ⟨nd, rfl⟩ := hd
            rcases s2 : sameF ((b.take b.length).drop i) ((t.take t.length).drop k) with _ | _
            · have E2 := Lib.hid s2; clear s2
              go_wp2_with fail
              refine (same_sl false _ _ _ _ _ _ _ _ _ (by (first | exact (Sl.cutF U1.out (of_eq_true z1) b.length (by omega) (by omega)).drewN _ | exact (Sl.cutN U1.out (of_eq_false z1) b.length (by omega) (by omega)).drewN _)) (by (first | exact (Sl.cutF U3.out (of_eq_true z3) t.length (by omega) (by omega)).drewN _ | exact (Sl.cutN U3.out (of_eq_false z3) t.length (by omega) (by omega)).drewN _)) E2.out).mono ?_
              rintro e w' ⟨rfl, hd⟩; obtain ⟨nd, rfl⟩ := hd
              rcases s3 : sameF ((o.take o.length).drop j) ((t.take t.length).drop k) with _ | _
              · have E3 := Lib.hid s3; clear s3
                go_wp2_with fail
                refine (same_sl false _ _ _ _ _ _ _ _ _ (by (first | exact (Sl.cutF U2.out (of_eq_true z2) o.length (by omega) (by omega)).drewN _ | exact (Sl.cutN U2.out (of_eq_false z2) o.length (by omega) (by omega)).drewN _)) (by (first | exact (Sl.cutF U3.out (of_eq_true z3) t.length (by omega) (by omega)).drewN _ | exact (Sl.cutN U3.out (of_eq_false z3) t.length (by omega) (by omega)).drewN _)) E3.out).mono ?_
                rintro e w' ⟨rfl, hd⟩; obtain ⟨nd, rfl⟩ := hd
                have HNN := Lib.hid (HN.out (chunk_0 E1.out E2.out E3.out))
                go_wp2
                go_ret2
                exact retM_none HNN.out rfl (below_drewN (B2.out.trans (hbel.out.mono B2.out.size)) _)
              · have E3 := Lib.hid s3; clear s3
                go_wp2_with fail
                refine (same_sl true _ _ _ _ _ _ _ _ _ (by (first | exact (Sl.cutF U2.out (of_eq_true z2) o.length (by omega) (by omega)).drewN _ | exact (Sl.cutN U2.out (of_eq_false z2) o.length (by omega) (by omega)).drewN _)) (by (first | exact (Sl.cutF U3.out (of_eq_true z3) t.length (by omega) (by omega)).drewN _ | exact (Sl.cutN U3.out (of_eq_false z3) t.length (by omega) (by omega)).drewN _)) E3.out).mono ?_
                rintro e w' ⟨rfl, hd⟩; obtain ⟨nd, rfl⟩ := hd
                have HC := Lib.hid (HS.out _ (chunk_3 E1.out E3.out))
                have hcl : ((o.take o.length).drop j).length = o.length - j := by simp <;> omega
                have HCL := Lib.hid hcl; clear hcl
                go_wp2_with (at_builtin; refine wpList_appR rfl (.tmp 99) (.tmp 100) 22 rfl Try.underlying22 info_str rfl w2.heap.size _ _ _ _ _ _ (((o.take o.length).drop j).map Value.string) (str_one _) rfl rfl (by exact hown.out) (by (first | exact ((Sl.cutF U2.out (of_eq_true z2) o.length (by omega) (by omega)).drewN _).2.2.2 | exact ((Sl.cutN U2.out (of_eq_false z2) o.length (by omega) (by omega)).drewN _).2.2.2)) (by rw [List.length_map]; exact HCL.out) hsz (by omega) (by omega) ?_; intro v1 w3 hown1 hb3; have HO := Lib.hid hown1; have HB3 : Hid (Below w2.heap.size w2 w3) := Lib.hid ((below_drewN hbel.out _).trans hb3); clear hown1 hb3)
                have HO2 := Lib.hid (own_cast HO.out (show _ = (ou ++ ((o.take o.length).drop j)).length by have := HCL.out; simp only [List.length_append]; omega) (show _ = (ou ++ ((o.take o.length).drop j)).map Value.string by simp))
                exact ⟨⟨b.length + 1, b.length + 1, o.length + 1, t.length + 1, _, by omega, by go_num, by go_num, by go_num, by go_num, Lib.hid (HC.out.2 _ _ _), HO2, HB3⟩, by simp [intOf] <;> omega⟩
            · have E2 := Lib.hid s2; clear s2
              go_wp2_with fail
              refine (same_sl true _ _ _ _ _ _ _ _ _ (by (first | exact (Sl.cutF U1.out (of_eq_true z1) b.length (by omega) (by omega)).drewN _ | exact (Sl.cutN U1.out (of_eq_false z1) b.length (by omega) (by omega)).drewN _)) (by (first | exact (Sl.cutF U3.out (of_eq_true z3) t.length (by omega) (by omega)).drewN _ | exact (Sl.cutN U3.out (of_eq_false z3) t.length (by omega) (by omega)).drewN _)) E2.out).mono ?_
              rintro e w' ⟨rfl, hd⟩; obtain ⟨nd, rfl⟩ := hd
              have HC := Lib.hid (HS.out _ (chunk_2 E1.out E2.out))
              have hcl : ((o.take o.length).drop j).length = o.length - j := by simp <;> omega
              have HCL := Lib.hid hcl; clear hcl
              go_wp2_with (at_builtin; refine wpList_appR rfl (.tmp 99) (.tmp 100) 22 rfl Try.underlying22 info_str rfl w2.heap.size _ _ _ _ _ _ (((o.take o.length).drop j).map Value.string) (str_one _) rfl rfl (by exact hown.out) (by (first | exact ((Sl.cutF U2.out (of_eq_true z2) o.length (by omega) (by omega)).drewN _).2.2.2 | exact ((Sl.cutN U2.out (of_eq_false z2) o.length (by omega) (by omega)).drewN _).2.2.2)) (by rw [List.length_map]; exact HCL.out) hsz (by omega) (by omega) ?_; intro v1 w3 hown1 hb3; have HO := Lib.hid hown1; have HB3 : Hid (Below w2.heap.size w2 w3) := Lib.hid ((below_drewN hbel.out _).trans hb3); clear hown1 hb3)
              have HO2 := Lib.hid (own_cast HO.out (show _ = (ou ++ ((o.take o.length).drop j)).length by have := HCL.out; simp only [List.length_append]; omega) (show _ = (ou ++ ((o.take o.length).drop j)).map Value.string by simp))
              exact ⟨⟨b.length + 1, b.length + 1, o.length + 1, t.length + 1, _, by omega, by go_num, by go_num, by go_num, by go_num, Lib.hid (HC.out.2 _ _ _), HO2, HB3⟩, by simp [intOf] <;> omega⟩
          · have E1 := Lib.hid s1; clear s1
            go_wp2_with fail
            refine (same_sl true _ _ _ _ _ _ _ _ _ (by (first | exact (Sl.cutF U1.out (of_eq_true z1) b.length (by omega) (by omega)).drewN _ | exact (Sl.cutN U1.out (of_eq_false z1) b.length (by omega) (by omega)).drewN _)) (by (first | exact (Sl.cutF U2.out (of_eq_true z2) o.length (by omega) (by omega)).drewN _ | exact (Sl.cutN U2.out (of_eq_false z2) o.length (by omega) (by omega)).drewN _)) E1.out).mono ?_
            rintro e w' ⟨rfl, hd⟩; obtain ⟨nd, rfl⟩ := hd
            have HC := Lib.hid (HS.out _ (chunk_1 E1.out))
            have hcl : ((t.take t.length).drop k).length = t.length - k := by simp <;> omega
            have HCL := Lib.hid hcl; clear hcl
            go_wp2_with (at_builtin; refine wpList_appR rfl (.tmp 88) (.tmp 89) 22 rfl Try.underlying22 info_str rfl w2.heap.size _ _ _ _ _ _ (((t.take t.length).drop k).map Value.string) (str_one _) rfl rfl (by exact hown.out) (by (first | exact ((Sl.cutF U3.out (of_eq_true z3) t.length (by omega) (by omega)).drewN _).2.2.2 | exact ((Sl.cutN U3.out (of_eq_false z3) t.length (by omega) (by omega)).drewN _).2.2.2)) (by rw [List.length_map]; exact HCL.out) hsz (by omega) (by omega) ?_; intro v1 w3 hown1 hb3; have HO := Lib.hid hown1; have HB3 : Hid (Below w2.heap.size w2 w3) := Lib.hid ((below_drewN hbel.out _).trans hb3); clear hown1 hb3)
            have HO2 := Lib.hid (own_cast HO.out (show _ = (ou ++ ((t.take t.length).drop k)).length by have := HCL.out; simp only [List.length_append]; omega) (show _ = (ou ++ ((t.take t.length).drop k)).map Value.string by simp))
            exact ⟨⟨b.length + 1, b.length + 1, o.length + 1, t.length + 1, _, by omega, by go_num, by go_num, by go_num, by go_num, Lib.hid (HC.out.2 _ _ _), HO2, HB3⟩, by simp [intOf] <;> omega⟩
      · have hle : decide ((x : Int) ≤ (b.length : Int)) = false := by simp; omega
        have HE := Lib.hid (Sq.rc_end hrc.out (by omega))
        go_wp2
        go_ret2
        exact retM_own HE.out ⟨_, rfl, own_base hown.out B2.out.size⟩ (B2.out.trans (hbel.out.mono B2.out.size))
end Go.Proofs.Ytkklpmfjbkapiaa
