/- WALKS: clip.Line: the end of a part. -/
import Derived.Test.YtdiknijbjmhacaaC9
set_option linter.unusedSimpArgs false
set_option linter.unusedVariables false
namespace Go.Proofs.Ytdiknijbjmhacaa
open Go.RowKit

theorem info_pts : (Try.prog.info? 22).map (fun i => (i.zero, i.size, i.bytes)) = some (some (.slice none 0 0), 1, 24) := by kernel_rfl
def EndPost (w : World) (gn go base top : Nat) (ps : List (List Cl.Pt)) (now : List Cl.Pt) (e : Ending) (w' : World) : Prop :=
  e = .returned (.tuple #[]) ∧ (∃ vo vs, LineSt w' gn go base w'.heap.size (.slice none 0 0) vo [] vs (ps ++ Cl.fin now)) ∧ But (X4 gn go base top) w w'
theorem fin_no {l : List Cl.Pt} (h : (Cl.cmpF l).length ≤ 1) : Cl.fin l = [] := by unfold Cl.fin; rw [if_neg (by omega)]
theorem fin_yes {l : List Cl.Pt} (h : 1 < (Cl.cmpF l).length) : Cl.fin l = [Cl.cmpF l] := by unfold Cl.fin; rw [if_pos h]

set_option maxHeartbeats 1000000 in
theorem end_short (gn go base hi top : Nat) (vn vo : Value) (now : List Cl.Pt) (vs : List Value) (ps : List (List Cl.Pt)) (w : World) (h : LineSt w gn go base hi vn vo now vs ps) (b1 : now.length < 2) :
    Calls Try.prog 27 #[.pointer (some ⟨gn, 0, none⟩), .pointer (some ⟨go, 0, none⟩)] w (EndPost w gn go base top ps now) := by
  obtain ⟨A, c, rfl, hc1, hc2⟩ := own_form h.now
  have n0 := cell_of_one h.cn
  have nf : w.frozen? ⟨gn, 0, none⟩ = false := by simp [World.frozen?, h.cn]
  have he : Cl.fin now = [] := fin_no (by rw [Cl.cmp_short b1]; omega)
  have nn : ¬ 1 < now.length := by omega
  have FIN : Hid (EndPost w gn go base top ps now (.returned (.tuple #[])) ((w.setCell ⟨gn, 0, none⟩ (.slice A now.length c)).setCell ⟨gn, 0, none⟩ (.slice none 0 0))) := by
    refine ⟨rfl, ⟨vo, vs, ?_⟩, ((But.refl _ _).set (.inl rfl) _).set (.inl rfl) _⟩
    rw [he, List.append_nil]
    have k := h.o.setn (gn := gn) (u := .slice A now.length c) h.ne h.ln
    exact LineSt.mk1 (k.keep (fun _ _ _ => rfl) (by simpa using h.o.hh) (by simp)) (one_set h.cn) h.ne h.ln (World.ownsRow_nil _ _ _ _)
  have HN := Lib.hid h; clear h he
  obtain ⟨n, hn⟩ : ∃ n, n = now.length := ⟨_, rfl⟩
  rw [← hn] at n0 hc1 nn FIN b1
  clear hn HN hc1 hc2
  have nn' : decide (1 < n) = false := by simpa using nn
  go_enter Try.func27, Try.ntmps27
  go_wp2_with (go_at_call 28; refine (compact_short A n c _ b1).mono ?_; rintro e w' ⟨rfl, rfl⟩)
  exact bodyPost_end (results_none (by rfl) _ _ _) rfl FIN.out

set_option maxHeartbeats 1000000 in
theorem end_long (gn go base hi top : Nat) (vn vo : Value) (now : List Cl.Pt) (vs : List Value) (ps : List (List Cl.Pt)) (w : World) (h : LineSt w gn go base hi vn vo now vs ps) (ht : ∀ r, vn.ownBlock = some r → r < top) (ht2 : ∀ r, vo.ownBlock = some r → r < top) (b1 : 2 ≤ now.length) (b2 : now.length ≤ 1000000) (b3 : ps.length ≤ 1000000) :
    Calls Try.prog 27 #[.pointer (some ⟨gn, 0, none⟩), .pointer (some ⟨go, 0, none⟩)] w (EndPost w gn go base top ps now) := by
  obtain ⟨A, c, rfl, hc1, hc2⟩ := own_form h.now
  obtain ⟨g, rfl, hg⟩ : ∃ g, A = some ⟨g, 0, none⟩ ∧ hi ≤ g := by
    rcases h.now.2 with ⟨hv, _⟩ | ⟨g, cap, cur, hv, hb, _⟩
    · injection hv with _ h2 _; omega
    · injection hv with h2 _ _; exact ⟨g, h2, hb⟩
  have PR := PtRow.of_own h.now
  have n0 := cell_of_one h.cn
  have o0 := cell_of_one h.o.co
  have nf : w.frozen? ⟨gn, 0, none⟩ = false := by simp [World.frozen?, h.cn]
  have of : w.frozen? ⟨go, 0, none⟩ = false := by simp [World.frozen?, h.o.co]
  have hne := h.ne
  have hcl := Cl.cmp_len1 now
  have hbs := h.o.hb; have hll := h.ln; have hlo := h.o.lo; have hhh := h.o.hh
  have ngn : gn ≠ g := by omega
  have ngo : go ≠ g := by omega
  unfold maxLen at hc2
  have CK := Lib.hid (compact_long g 0 c now w b1 hc1 hc2 PR)
  have h0 := h.o; have hcn := h.cn
  have hgz := PR.lt
  -- what holds behind Compact
  have AFT : Hid (∀ w1, PtRow w1 g 0 (Cl.cmpF now) → But (· = g) w w1 → LineO w1 go base w1.heap.size vo vs ps ∧ w1.heap[gn]? = some (.cells #[.slice (some ⟨g, 0, none⟩) now.length c] 22 (0, 0)) ∧ w1.heap[go]? = some (.cells #[vo] 29 (0, 0))) := Lib.hid (fun w1 p1 bt =>
    ⟨h0.keep (fun k hk hx => bt.block k hk (by
        rintro rfl
        rcases hx with hx | ⟨_, hx | hx⟩
        · omega
        · omega
        · exact hx PR.blk)) (Nat.le_trans hhh bt.size) (Nat.le_refl _), (bt.block _ (lt_of_block hcn) ngn).trans hcn, (bt.block _ (lt_of_block h0.co) ngo).trans h0.co⟩)
  have BT : Hid (∀ w1, But (· = g) w w1 → But (X4 gn go base top) w w1) := Lib.hid (fun w1 bt => ⟨bt.os, bt.tape, bt.output, bt.size, fun k hk hx => bt.block k hk (fun e => hx (.inr (.inr (by have := ht g rfl; omega))))⟩)
  have HT2 := Lib.hid ht2
  clear h PR h0 hcn ht ht2
  obtain ⟨n, hn⟩ : ∃ n, n = now.length := ⟨_, rfl⟩
  rw [← hn] at n0 hc1 b1 b2 hcl AFT CK
  have HN := Lib.hid hn; clear hn
  obtain ⟨m, hm⟩ : ∃ m, m = (Cl.cmpF now).length := ⟨_, rfl⟩
  rw [← hm] at hcl CK
  by_cases hone : 1 < m
  · have FN := Lib.hid (fin_yes (l := now) (by omega))
    have HM := Lib.hid hm; clear hm
    go_enter Try.func27, Try.ntmps27
    go_wp2_with fail
    refine CK.out.mono ?_
    rintro e w1 ⟨rfl, p1, bt⟩
    obtain ⟨a1, a2, a3⟩ := AFT.out w1 p1 bt
    have c1 := cell_of_one a2
    have c2 := cell_of_one a3
    have f1 : w1.frozen? ⟨gn, 0, none⟩ = false := by simp [World.frozen?, a2]
    have f2 : w1.frozen? ⟨go, 0, none⟩ = false := by simp [World.frozen?, a3]
    have A4 := Lib.hid (a1.setn (gn := gn) (u := .slice (some ⟨g, 0, none⟩) m c) hne hll)
    have A2 := Lib.hid a2; have P1 := Lib.hid p1; have B1 := Lib.hid bt
    have hz : base ≤ w1.heap.size := by have := bt.size; omega
    have hgz1 : g < w1.heap.size := by have := bt.size; omega
    clear a1 a2 a3 p1 bt
    have F2 : Hid (∀ w2, Below base (w1.setCell ⟨gn, 0, none⟩ (.slice (some ⟨g, 0, none⟩) m c)) w2 → (w2.heap[go]? = some (.cells #[vo] 29 (0, 0)) ∧ w2.heap[gn]? = some (.cells #[.slice (some ⟨g, 0, none⟩) m c] 22 (0, 0))) ∧ w2.cell? ⟨go, 0, none⟩ = some vo ∧ w2.frozen? ⟨go, 0, none⟩ = false ∧ w2.cell? ⟨gn, 0, none⟩ = some (.slice (some ⟨g, 0, none⟩) m c) ∧ w2.frozen? ⟨gn, 0, none⟩ = false) := Lib.hid (fun w2 hb => by
      have e1 := (hb.block _ hlo).trans A4.out.co
      have e2 := (hb.block _ hll).trans (one_set A2.out)
      exact ⟨⟨e1, e2⟩, cell_of_one e1, by simp [World.frozen?, e1], cell_of_one e2, by simp [World.frozen?, e2]⟩)
    go_wp2_with (at_builtin; refine wpList_app1G rfl (.tmp 7) (.tmp 9) 29 rfl Try.underlying29 info_pts rfl (by decide) base _ _ _ _ _ rfl (by simp [Value.oneCell']) rfl rfl (by simp) (by exact A4.out.out) (by simpa using hz) (by omega) (by omega) ?_; intro v2 w2 hown2 hb2 hg2; obtain ⟨Aq, cq, rfl, -, -⟩ := own_form hown2; obtain ⟨e0, e1, e2, e3, e4⟩ := F2.out w2 hb2; have E0 := Lib.hid e0; have HO2 := Lib.hid hown2; have HB2 := Lib.hid hb2; have HG2 := Lib.hid hg2; clear e0 hown2 hb2 hg2)
    refine bodyPost_end (results_none (by rfl) _ _ _) rfl ?_
    have L4 : LineO (w2.setCell ⟨go, 0, none⟩ (.slice Aq (ps.length + 1) cq)) go base w1.heap.size (.slice Aq (ps.length + 1) cq) (vs ++ [.slice (some ⟨g, 0, none⟩) m c]) (ps ++ [Cl.cmpF now]) := by
      refine A4.out.more HO2.out HB2.out (fun k hk => ?_) ⟨g, 0, c, by rw [HM.out], by omega, hgz1, P1.out.keep (Below.heap_setCell _ _ _ _ (Ne.symm ngn)), by have := HM.out; omega, by unfold maxLen; omega⟩
      obtain ⟨cs, hc⟩ := hk
      have hc' : ((w1.setCell ⟨gn, 0, none⟩ (.slice (some ⟨g, 0, none⟩) m c)).alloc (.cells #[.slice (some ⟨g, 0, none⟩) m c] 22)).heap[k]? = some (.cells cs 24 (0, 0)) := by
        rw [← hc]; exact ((Below.refl _ _).alloc (Nat.le_refl _) _).block k (lt_of_block hc)
      rw [hc]
      exact blk_keep HG2.out (A4.out.out.alloc _) hc' (by decide)
    have L5 := L4.setn (gn := gn) (u := .slice none 0 0) hne hll
    have z2 : w1.heap.size ≤ w2.heap.size := by have := HB2.out.size; simpa using this
    refine ⟨rfl, ⟨.slice Aq (ps.length + 1) cq, vs ++ [.slice (some ⟨g, 0, none⟩) m c], ?_⟩, ?_⟩
    · rw [FN.out]
      exact LineSt.mk1 (L4.keep (fun _ _ _ => rfl) (by simpa using z2) (by simp)) ((Below.heap_setCell _ _ _ _ hne).trans E0.out.2) hne hll (World.ownsRow_nil _ _ _ _)
    · refine ((((BT.out _ B1.out).set (p := ⟨gn, 0, none⟩) (.inl rfl) (.slice (some ⟨g, 0, none⟩) m c)).trans ?_).set (p := ⟨go, 0, none⟩) (.inr (.inl rfl)) _).set (p := ⟨gn, 0, none⟩) (.inl rfl) _
      refine ⟨HB2.out.os, HB2.out.tape, HB2.out.output, HB2.out.size, fun k hk hx => ?_⟩
      rcases Nat.lt_or_ge k base with hkb | hkb
      · exact HB2.out.block k hkb
      · have hz' : k < ((w1.setCell ⟨gn, 0, none⟩ (.slice (some ⟨g, 0, none⟩) m c)).alloc (.cells #[.slice (some ⟨g, 0, none⟩) m c] 22)).heap.size := by simp at hk ⊢; omega
        refine (HG2.out.block k hz' ?_).trans (((Below.refl _ _).alloc (Nat.le_refl _) _).block k hk)
        intro e
        have := HT2.out k e.symm
        exact hx (.inr (.inr ⟨hkb, this⟩))
  · have FN := Lib.hid (fin_no (l := now) (by omega))
    have HM := Lib.hid hm; clear hm
    have hone' : decide (1 < m) = false := by simpa using hone
    go_enter Try.func27, Try.ntmps27
    go_wp2_with fail
    refine CK.out.mono ?_
    rintro e w1 ⟨rfl, p1, bt⟩
    obtain ⟨a1, a2, a3⟩ := AFT.out w1 p1 bt
    have c1 := cell_of_one a2
    have f1 : w1.frozen? ⟨gn, 0, none⟩ = false := by simp [World.frozen?, a2]
    have A1 := Lib.hid a1; have A2 := Lib.hid a2; have A3 := Lib.hid a3; have P1 := Lib.hid p1; have B1 := Lib.hid bt
    clear a1 a2 a3 p1 bt
    go_wp2_with fail
    refine bodyPost_end (results_none (by rfl) _ _ _) rfl ?_
    refine ⟨rfl, ⟨vo, vs, ?_⟩, ((BT.out _ B1.out).set (.inl rfl) _).set (.inl rfl) _⟩
    rw [FN.out, List.append_nil]
    have k := A1.out.setn (gn := gn) (u := .slice (some ⟨g, 0, none⟩) m c) hne hll
    exact LineSt.mk1 (k.keep (fun _ _ _ => rfl) (by simp) (by simp)) (one_set A2.out) hne hll (World.ownsRow_nil _ _ _ _)
end Go.Proofs.Ytdiknijbjmhacaa
