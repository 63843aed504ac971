/- WALKS: the law's examples (printed by gen_h1.py). -/
import Derived.Test.YtdiknijbjmhacaaH0
import Derived.Deep.DeepCutAuto
set_option linter.unusedSimpArgs false
set_option linter.unusedVariables false
namespace Go.Proofs.Ytdiknijbjmhacaa
open Go.RowKit
attribute [local go_sem ↓] Go.wp_at_zero Go.wp_at_succ

theorem pz_drew {w : World} {A : Option Addr} {l : List (List Cl.Pt)} (h : Pz w A l) : Pz w.drew A l := h
theorem parts_p (A B : Option Addr) (n c d : Nat) (l : List (List Cl.Pt)) (w : World) (hn : n = l.length) (hl : l.length ≤ 1000) (hll : ∀ x ∈ l, x.length ≤ 1000) (h : Pz w A l) (h2 : Pz w B l) :
    Calls Try.prog 11 #[.slice A n c, .slice B n d] w fun e w' => e = .returned (.bool true) ∧ Below w.heap.size w w' :=
  (rparts_any A B n n c d l l w hn hn (by omega) (by omega) h h2 (fun x hx => by have := hll x hx; omega) (fun x hx => by have := hll x hx; omega)).mono fun e w' ⟨he, hd⟩ => ⟨by rw [he]; simp [sameParts], hd.below _⟩
theorem same_p (A B : Option Addr) (n c d : Nat) (l : List Cl.Pt) (w : World) (hn : n = l.length) (hl : l.length ≤ 1000) (h : Rp w A l) (h2 : Rp w B l) :
    Calls Try.prog 14 #[.slice A n c, .slice B n d] w fun e w' => e = .returned (.bool true) ∧ Below w.heap.size w w' :=
  (rsame_any A B c d l l n n w hn hn (by omega) (by omega) h h2).mono fun e w' ⟨he, hd⟩ => ⟨by rw [he]; simp [samePts], hd.below _⟩

set_option maxHeartbeats 40000000 in
theorem head_any (w : World) : Calls Try.prog 10 #[] w fun e w' => e = .returned (.bool true) ∧ Below w.heap.size w w' := by
  go_enter Try.func10, Try.ntmps10
  go_upto_region 2 with fail
  obtain ⟨W0, hW⟩ : ∃ W0, W0 = w.alloc (.cells #[.int .i64 0, .int .i64 0, .int .i64 4, .int .i64 4] 26) := ⟨_, rfl⟩
  have HBX : Hid (BoxAt W0 w.heap.size ⟨0, 0, 4, 4⟩) := Lib.hid (by rw [hW]; exact heap_alloc_new w _)
  have BB : Hid (Below w.heap.size w W0) := Lib.hid (by rw [hW]; exact (Below.refl _ _).alloc (Nat.le_refl _) _)
  rw [← hW]
  clear hW
  obtain ⟨q0, q1, q2, q3⟩ := HBX.out.c
  simp only at q0 q1 q2 q3
  go_cut [2] (fun s wx => s = .bool true ∧ Hid (Below W0.heap.size W0 wx))
  case first =>
    have Q0 : ∀ w', OldOf W0.drew w' → w'.cell? ⟨w.heap.size, 0, none⟩ = some (.int .i64 0) := fun w' h => h.c (by exact q0)
    have Q1 : ∀ w', OldOf W0.drew w' → w'.cell? ⟨w.heap.size, 1, none⟩ = some (.int .i64 0) := fun w' h => h.c (by exact q1)
    have Q2 : ∀ w', OldOf W0.drew w' → w'.cell? ⟨w.heap.size, 2, none⟩ = some (.int .i64 4) := fun w' h => h.c (by exact q2)
    have Q3 : ∀ w', OldOf W0.drew w' → w'.cell? ⟨w.heap.size, 3, none⟩ = some (.int .i64 4) := fun w' h => h.c (by exact q3)
    have o0 : OldOf W0.drew W0.drew := OldOf.refl _
    have P0 := Lib.hid (fun A c u (h : Rp u A [(-2, 2), (6, 2)]) => points_p A 4 c [(-2, 2), (6, 2)] u rfl (by decide) h)
    have P1 := Lib.hid (fun A c u (h : Rp u A [(0, 2), (4, 2)]) => points_p A 4 c [(0, 2), (4, 2)] u rfl (by decide) h)
    have L1 := Lib.hid (fun A c u (h : Rp u A [(-2, 2), (6, 2)]) => line_p A 2 c [(-2, 2), (6, 2)] 0 0 4 4 u [[(0, 2), (4, 2)]] rfl (by decide) h (wf_of (by decide)) (wf_of (by decide)) ex1)
    have T1 := Lib.hid (fun A B c d u (h : Pz u A [[(0, 2), (4, 2)]]) (h2 : Pz u B [[(0, 2), (4, 2)]]) => parts_p A B 1 c d [[(0, 2), (4, 2)]] u rfl (by decide) (by decide) h h2)
    clear q0 q1 q2 q3
    go_region_held3 (fun w' => OldOf W0.drew w') (first | assumption | exact OldOf.alloc (by assumption) _ | exact o2) ((first
      | ((with_reducible refine (P0.out _ _ _ ?_).mono ?_); (focus (refine rp_row (cs := #[.int .i64 (-2), .int .i64 2, .int .i64 6, .int .i64 2]) (e := 3) ?_ rfl; (repeat (first | with_reducible refine (drew_heap _ _).trans ?_ | ((with_reducible refine alloc_new' _ _ _ ?_); (focus (first | rfl | (simp; done)))) | ((with_reducible refine (alloc_old _ _ ?_).trans ?_); (focus (first | (simp; done) | (simp; omega) | omega))) | ((with_reducible refine (Below.block (by assumption) _ ?_).trans ?_); (focus (first | (simp; done) | (simp; omega) | omega))))); done)); rintro e w2 ⟨A2, c2, rfl, rp2, hc2, hb2⟩; have o2 := OldOf.below (by assumption) hb2; have hs2 := hb2.size; (try simp at hs2))
      | ((with_reducible refine (P1.out _ _ _ ?_).mono ?_); (focus (refine rp_row (cs := #[.int .i64 0, .int .i64 2, .int .i64 4, .int .i64 2]) (e := 3) ?_ rfl; (repeat (first | with_reducible refine (drew_heap _ _).trans ?_ | ((with_reducible refine alloc_new' _ _ _ ?_); (focus (first | rfl | (simp; done)))) | ((with_reducible refine (alloc_old _ _ ?_).trans ?_); (focus (first | (simp; done) | (simp; omega) | omega))) | ((with_reducible refine (Below.block (by assumption) _ ?_).trans ?_); (focus (first | (simp; done) | (simp; omega) | omega))))); done)); rintro e w2 ⟨A2, c2, rfl, rp2, hc2, hb2⟩; have o2 := OldOf.below (by assumption) hb2; have hs2 := hb2.size; (try simp at hs2))
      | ((with_reducible refine (L1.out _ _ _ ?_).mono ?_); (focus ((repeat (first | assumption | with_reducible refine rp_drew ?_ | with_reducible refine rp_alloc ?_ _ | with_reducible refine rp_below ?_ (by assumption))); done)); rintro e w2 ⟨A2, c2, rfl, pz2, hc2, hb2⟩; have o2 := OldOf.below (by assumption) hb2; have hs2 := hb2.size; (try simp at hs2))
      | ((with_reducible refine (T1.out _ _ _ _ _ ?_ ?_).mono ?_); (focus ((repeat (first | assumption | with_reducible refine pz_drew ?_ | with_reducible refine pz_alloc ?_ _ | with_reducible refine pz_below ?_ (by assumption))); done)); (focus (apply pz_one (e := 22); (focus ((repeat (first | with_reducible refine (drew_heap _ _).trans ?_ | ((with_reducible refine alloc_new' _ _ _ ?_); (focus (first | rfl | (simp; done)))) | ((with_reducible refine (alloc_old _ _ ?_).trans ?_); (focus (first | (simp; done) | (simp; omega) | omega))) | ((with_reducible refine (Below.block (by assumption) _ ?_).trans ?_); (focus (first | (simp; done) | (simp; omega) | omega))))); done)); (focus ((repeat (first | assumption | with_reducible refine rp_drew ?_ | with_reducible refine rp_alloc ?_ _ | with_reducible refine rp_below ?_ (by assumption))); done)); rfl; assumption; done)); rintro e w2 ⟨rfl, hb2⟩; have o2 := OldOf.below (by assumption) hb2; have hs2 := hb2.size; (try simp at hs2))))
    all_goals (go_wp2_with fail; go_meet; refine ⟨rfl, Lib.hid (OldOf.undrew ?_)⟩; first | assumption | exact o2)
  case rest =>
    obtain ⟨rfl, hbx⟩ := hcut
    obtain ⟨W1, hW⟩ : ∃ W, W = wc := ⟨_, rfl⟩; rw [← hW] at hbx ⊢; clear hW wc
    have HBX := Lib.hid (HBX.out.below hbx.out HBX.out.lt)
    have BB := Lib.hid (BB.out.trans (hbx.out.mono BB.out.size))
    clear hbx
    go_upto_region 3 with fail
    obtain ⟨q0, q1, q2, q3⟩ := HBX.out.c
    simp only at q0 q1 q2 q3
    go_cut [3] (fun s wx => s = .bool true ∧ Hid (Below W1.heap.size W1 wx))
    case first =>
      have Q0 : ∀ w', OldOf W1.drew w' → w'.cell? ⟨w.heap.size, 0, none⟩ = some (.int .i64 0) := fun w' h => h.c (by exact q0)
      have Q1 : ∀ w', OldOf W1.drew w' → w'.cell? ⟨w.heap.size, 1, none⟩ = some (.int .i64 0) := fun w' h => h.c (by exact q1)
      have Q2 : ∀ w', OldOf W1.drew w' → w'.cell? ⟨w.heap.size, 2, none⟩ = some (.int .i64 4) := fun w' h => h.c (by exact q2)
      have Q3 : ∀ w', OldOf W1.drew w' → w'.cell? ⟨w.heap.size, 3, none⟩ = some (.int .i64 4) := fun w' h => h.c (by exact q3)
      have o0 : OldOf W1.drew W1.drew := OldOf.refl _
      have P0 := Lib.hid (fun A c u (h : Rp u A [(1, 1), (6, 1), (6, 3), (1, 3)]) => points_p A 8 c [(1, 1), (6, 1), (6, 3), (1, 3)] u rfl (by decide) h)
      have P1 := Lib.hid (fun A c u (h : Rp u A [(1, 1), (4, 1)]) => points_p A 4 c [(1, 1), (4, 1)] u rfl (by decide) h)
      have P2 := Lib.hid (fun A c u (h : Rp u A [(4, 3), (1, 3)]) => points_p A 4 c [(4, 3), (1, 3)] u rfl (by decide) h)
      have L1 := Lib.hid (fun A c u (h : Rp u A [(1, 1), (6, 1), (6, 3), (1, 3)]) => line_p A 4 c [(1, 1), (6, 1), (6, 3), (1, 3)] 0 0 4 4 u [[(1, 1), (4, 1)], [(4, 3), (1, 3)]] rfl (by decide) h (wf_of (by decide)) (wf_of (by decide)) ex2)
      have T1 := Lib.hid (fun A B c d u (h : Pz u A [[(1, 1), (4, 1)], [(4, 3), (1, 3)]]) (h2 : Pz u B [[(1, 1), (4, 1)], [(4, 3), (1, 3)]]) => parts_p A B 2 c d [[(1, 1), (4, 1)], [(4, 3), (1, 3)]] u rfl (by decide) (by decide) h h2)
      clear q0 q1 q2 q3
      go_region_held3 (fun w' => OldOf W1.drew w') (first | assumption | exact OldOf.alloc (by assumption) _ | exact o2) ((first
        | ((with_reducible refine (P0.out _ _ _ ?_).mono ?_); (focus (refine rp_row (cs := #[.int .i64 1, .int .i64 1, .int .i64 6, .int .i64 1, .int .i64 6, .int .i64 3, .int .i64 1, .int .i64 3]) (e := 3) ?_ rfl; (repeat (first | with_reducible refine (drew_heap _ _).trans ?_ | ((with_reducible refine alloc_new' _ _ _ ?_); (focus (first | rfl | (simp; done)))) | ((with_reducible refine (alloc_old _ _ ?_).trans ?_); (focus (first | (simp; done) | (simp; omega) | omega))) | ((with_reducible refine (Below.block (by assumption) _ ?_).trans ?_); (focus (first | (simp; done) | (simp; omega) | omega))))); done)); rintro e w2 ⟨A2, c2, rfl, rp2, hc2, hb2⟩; have o2 := OldOf.below (by assumption) hb2; have hs2 := hb2.size; (try simp at hs2))
        | ((with_reducible refine (P1.out _ _ _ ?_).mono ?_); (focus (refine rp_row (cs := #[.int .i64 1, .int .i64 1, .int .i64 4, .int .i64 1]) (e := 3) ?_ rfl; (repeat (first | with_reducible refine (drew_heap _ _).trans ?_ | ((with_reducible refine alloc_new' _ _ _ ?_); (focus (first | rfl | (simp; done)))) | ((with_reducible refine (alloc_old _ _ ?_).trans ?_); (focus (first | (simp; done) | (simp; omega) | omega))) | ((with_reducible refine (Below.block (by assumption) _ ?_).trans ?_); (focus (first | (simp; done) | (simp; omega) | omega))))); done)); rintro e w2 ⟨A2, c2, rfl, rp2, hc2, hb2⟩; have o2 := OldOf.below (by assumption) hb2; have hs2 := hb2.size; (try simp at hs2))
        | ((with_reducible refine (P2.out _ _ _ ?_).mono ?_); (focus (refine rp_row (cs := #[.int .i64 4, .int .i64 3, .int .i64 1, .int .i64 3]) (e := 3) ?_ rfl; (repeat (first | with_reducible refine (drew_heap _ _).trans ?_ | ((with_reducible refine alloc_new' _ _ _ ?_); (focus (first | rfl | (simp; done)))) | ((with_reducible refine (alloc_old _ _ ?_).trans ?_); (focus (first | (simp; done) | (simp; omega) | omega))) | ((with_reducible refine (Below.block (by assumption) _ ?_).trans ?_); (focus (first | (simp; done) | (simp; omega) | omega))))); done)); rintro e w2 ⟨A2, c2, rfl, rp2, hc2, hb2⟩; have o2 := OldOf.below (by assumption) hb2; have hs2 := hb2.size; (try simp at hs2))
        | ((with_reducible refine (L1.out _ _ _ ?_).mono ?_); (focus ((repeat (first | assumption | with_reducible refine rp_drew ?_ | with_reducible refine rp_alloc ?_ _ | with_reducible refine rp_below ?_ (by assumption))); done)); rintro e w2 ⟨A2, c2, rfl, pz2, hc2, hb2⟩; have o2 := OldOf.below (by assumption) hb2; have hs2 := hb2.size; (try simp at hs2))
        | ((with_reducible refine (T1.out _ _ _ _ _ ?_ ?_).mono ?_); (focus ((repeat (first | assumption | with_reducible refine pz_drew ?_ | with_reducible refine pz_alloc ?_ _ | with_reducible refine pz_below ?_ (by assumption))); done)); (focus (apply pz_two (e := 22); (focus ((repeat (first | with_reducible refine (drew_heap _ _).trans ?_ | ((with_reducible refine alloc_new' _ _ _ ?_); (focus (first | rfl | (simp; done)))) | ((with_reducible refine (alloc_old _ _ ?_).trans ?_); (focus (first | (simp; done) | (simp; omega) | omega))) | ((with_reducible refine (Below.block (by assumption) _ ?_).trans ?_); (focus (first | (simp; done) | (simp; omega) | omega))))); done)); (focus ((repeat (first | assumption | with_reducible refine rp_drew ?_ | with_reducible refine rp_alloc ?_ _ | with_reducible refine rp_below ?_ (by assumption))); done)); rfl; assumption; (focus ((repeat (first | assumption | with_reducible refine rp_drew ?_ | with_reducible refine rp_alloc ?_ _ | with_reducible refine rp_below ?_ (by assumption))); done)); rfl; assumption; done)); rintro e w2 ⟨rfl, hb2⟩; have o2 := OldOf.below (by assumption) hb2; have hs2 := hb2.size; (try simp at hs2))))
      all_goals (go_wp2_with fail; go_meet; refine ⟨rfl, Lib.hid (OldOf.undrew ?_)⟩; first | assumption | exact o2)
    case rest =>
      obtain ⟨rfl, hbx⟩ := hcut
      obtain ⟨W2, hW⟩ : ∃ W, W = wc := ⟨_, rfl⟩; rw [← hW] at hbx ⊢; clear hW wc
      have HBX := Lib.hid (HBX.out.below hbx.out HBX.out.lt)
      have BB := Lib.hid (BB.out.trans (hbx.out.mono BB.out.size))
      clear hbx
      go_upto_region 4 with fail
      obtain ⟨q0, q1, q2, q3⟩ := HBX.out.c
      simp only at q0 q1 q2 q3
      go_cut [4] (fun s wx => s = .bool true ∧ Hid (Below W2.heap.size W2 wx))
      case first =>
        have Q0 : ∀ w', OldOf W2.drew w' → w'.cell? ⟨w.heap.size, 0, none⟩ = some (.int .i64 0) := fun w' h => h.c (by exact q0)
        have Q1 : ∀ w', OldOf W2.drew w' → w'.cell? ⟨w.heap.size, 1, none⟩ = some (.int .i64 0) := fun w' h => h.c (by exact q1)
        have Q2 : ∀ w', OldOf W2.drew w' → w'.cell? ⟨w.heap.size, 2, none⟩ = some (.int .i64 4) := fun w' h => h.c (by exact q2)
        have Q3 : ∀ w', OldOf W2.drew w' → w'.cell? ⟨w.heap.size, 3, none⟩ = some (.int .i64 4) := fun w' h => h.c (by exact q3)
        have o0 : OldOf W2.drew W2.drew := OldOf.refl _
        have P0 := Lib.hid (fun A c u (h : Rp u A [(-1, 0), (2, 1)]) => points_p A 4 c [(-1, 0), (2, 1)] u rfl (by decide) h)
        have P1 := Lib.hid (fun A c u (h : Rp u A [(0, 0), (2, 1)]) => points_p A 4 c [(0, 0), (2, 1)] u rfl (by decide) h)
        have L1 := Lib.hid (fun A c u (h : Rp u A [(-1, 0), (2, 1)]) => line_p A 2 c [(-1, 0), (2, 1)] 0 0 4 4 u [[(0, 0), (2, 1)]] rfl (by decide) h (wf_of (by decide)) (wf_of (by decide)) ex3)
        have T1 := Lib.hid (fun A B c d u (h : Pz u A [[(0, 0), (2, 1)]]) (h2 : Pz u B [[(0, 0), (2, 1)]]) => parts_p A B 1 c d [[(0, 0), (2, 1)]] u rfl (by decide) (by decide) h h2)
        clear q0 q1 q2 q3
        go_region_held3 (fun w' => OldOf W2.drew w') (first | assumption | exact OldOf.alloc (by assumption) _ | exact o2) ((first
          | ((with_reducible refine (P0.out _ _ _ ?_).mono ?_); (focus (refine rp_row (cs := #[.int .i64 (-1), .int .i64 0, .int .i64 2, .int .i64 1]) (e := 3) ?_ rfl; (repeat (first | with_reducible refine (drew_heap _ _).trans ?_ | ((with_reducible refine alloc_new' _ _ _ ?_); (focus (first | rfl | (simp; done)))) | ((with_reducible refine (alloc_old _ _ ?_).trans ?_); (focus (first | (simp; done) | (simp; omega) | omega))) | ((with_reducible refine (Below.block (by assumption) _ ?_).trans ?_); (focus (first | (simp; done) | (simp; omega) | omega))))); done)); rintro e w2 ⟨A2, c2, rfl, rp2, hc2, hb2⟩; have o2 := OldOf.below (by assumption) hb2; have hs2 := hb2.size; (try simp at hs2))
          | ((with_reducible refine (P1.out _ _ _ ?_).mono ?_); (focus (refine rp_row (cs := #[.int .i64 0, .int .i64 0, .int .i64 2, .int .i64 1]) (e := 3) ?_ rfl; (repeat (first | with_reducible refine (drew_heap _ _).trans ?_ | ((with_reducible refine alloc_new' _ _ _ ?_); (focus (first | rfl | (simp; done)))) | ((with_reducible refine (alloc_old _ _ ?_).trans ?_); (focus (first | (simp; done) | (simp; omega) | omega))) | ((with_reducible refine (Below.block (by assumption) _ ?_).trans ?_); (focus (first | (simp; done) | (simp; omega) | omega))))); done)); rintro e w2 ⟨A2, c2, rfl, rp2, hc2, hb2⟩; have o2 := OldOf.below (by assumption) hb2; have hs2 := hb2.size; (try simp at hs2))
          | ((with_reducible refine (L1.out _ _ _ ?_).mono ?_); (focus ((repeat (first | assumption | with_reducible refine rp_drew ?_ | with_reducible refine rp_alloc ?_ _ | with_reducible refine rp_below ?_ (by assumption))); done)); rintro e w2 ⟨A2, c2, rfl, pz2, hc2, hb2⟩; have o2 := OldOf.below (by assumption) hb2; have hs2 := hb2.size; (try simp at hs2))
          | ((with_reducible refine (T1.out _ _ _ _ _ ?_ ?_).mono ?_); (focus ((repeat (first | assumption | with_reducible refine pz_drew ?_ | with_reducible refine pz_alloc ?_ _ | with_reducible refine pz_below ?_ (by assumption))); done)); (focus (apply pz_one (e := 22); (focus ((repeat (first | with_reducible refine (drew_heap _ _).trans ?_ | ((with_reducible refine alloc_new' _ _ _ ?_); (focus (first | rfl | (simp; done)))) | ((with_reducible refine (alloc_old _ _ ?_).trans ?_); (focus (first | (simp; done) | (simp; omega) | omega))) | ((with_reducible refine (Below.block (by assumption) _ ?_).trans ?_); (focus (first | (simp; done) | (simp; omega) | omega))))); done)); (focus ((repeat (first | assumption | with_reducible refine rp_drew ?_ | with_reducible refine rp_alloc ?_ _ | with_reducible refine rp_below ?_ (by assumption))); done)); rfl; assumption; done)); rintro e w2 ⟨rfl, hb2⟩; have o2 := OldOf.below (by assumption) hb2; have hs2 := hb2.size; (try simp at hs2))))
        all_goals (go_wp2_with fail; go_meet; refine ⟨rfl, Lib.hid (OldOf.undrew ?_)⟩; first | assumption | exact o2)
      case rest =>
        obtain ⟨rfl, hbx⟩ := hcut
        obtain ⟨W3, hW⟩ : ∃ W, W = wc := ⟨_, rfl⟩; rw [← hW] at hbx ⊢; clear hW wc
        have HBX := Lib.hid (HBX.out.below hbx.out HBX.out.lt)
        have BB := Lib.hid (BB.out.trans (hbx.out.mono BB.out.size))
        clear hbx
        go_upto_region 5 with fail
        obtain ⟨q0, q1, q2, q3⟩ := HBX.out.c
        simp only at q0 q1 q2 q3
        go_cut [0] (fun s wx => s = .bool true ∧ Hid (Below W3.heap.size W3 wx))
        case first =>
          have Q0 : ∀ w', OldOf W3.drew w' → w'.cell? ⟨w.heap.size, 0, none⟩ = some (.int .i64 0) := fun w' h => h.c (by exact q0)
          have Q1 : ∀ w', OldOf W3.drew w' → w'.cell? ⟨w.heap.size, 1, none⟩ = some (.int .i64 0) := fun w' h => h.c (by exact q1)
          have Q2 : ∀ w', OldOf W3.drew w' → w'.cell? ⟨w.heap.size, 2, none⟩ = some (.int .i64 4) := fun w' h => h.c (by exact q2)
          have Q3 : ∀ w', OldOf W3.drew w' → w'.cell? ⟨w.heap.size, 3, none⟩ = some (.int .i64 4) := fun w' h => h.c (by exact q3)
          have o0 : OldOf W3.drew W3.drew := OldOf.refl _
          have P0 := Lib.hid (fun A c u (h : Rp u A [(-2, -2), (2, -2), (2, 2), (-2, 2)]) => points_p A 8 c [(-2, -2), (2, -2), (2, 2), (-2, 2)] u rfl (by decide) h)
          have P1 := Lib.hid (fun A c u (h : Rp u A [(0, 0), (2, 0), (2, 2), (0, 2)]) => points_p A 8 c [(0, 0), (2, 0), (2, 2), (0, 2)] u rfl (by decide) h)
          have L1 := Lib.hid (fun A c u (h : Rp u A [(-2, -2), (2, -2), (2, 2), (-2, 2)]) => ring_p A 4 c [(-2, -2), (2, -2), (2, 2), (-2, 2)] 0 0 4 4 u [(0, 0), (2, 0), (2, 2), (0, 2)] rfl (by decide) h (wf_of (by decide)) (wf_of (by decide)) ex4)
          have T1 := Lib.hid (fun A B c d u (h : Rp u A [(0, 0), (2, 0), (2, 2), (0, 2)]) (h2 : Rp u B [(0, 0), (2, 0), (2, 2), (0, 2)]) => same_p A B 4 c d [(0, 0), (2, 0), (2, 2), (0, 2)] u rfl (by decide) h h2)
          clear q0 q1 q2 q3
          go_region_held3 (fun w' => OldOf W3.drew w') (first | assumption | exact OldOf.alloc (by assumption) _ | exact o2) ((first
            | ((with_reducible refine (P0.out _ _ _ ?_).mono ?_); (focus (refine rp_row (cs := #[.int .i64 (-2), .int .i64 (-2), .int .i64 2, .int .i64 (-2), .int .i64 2, .int .i64 2, .int .i64 (-2), .int .i64 2]) (e := 3) ?_ rfl; (repeat (first | with_reducible refine (drew_heap _ _).trans ?_ | ((with_reducible refine alloc_new' _ _ _ ?_); (focus (first | rfl | (simp; done)))) | ((with_reducible refine (alloc_old _ _ ?_).trans ?_); (focus (first | (simp; done) | (simp; omega) | omega))) | ((with_reducible refine (Below.block (by assumption) _ ?_).trans ?_); (focus (first | (simp; done) | (simp; omega) | omega))))); done)); rintro e w2 ⟨A2, c2, rfl, rp2, hc2, hb2⟩; have o2 := OldOf.below (by assumption) hb2; have hs2 := hb2.size; (try simp at hs2))
            | ((with_reducible refine (P1.out _ _ _ ?_).mono ?_); (focus (refine rp_row (cs := #[.int .i64 0, .int .i64 0, .int .i64 2, .int .i64 0, .int .i64 2, .int .i64 2, .int .i64 0, .int .i64 2]) (e := 3) ?_ rfl; (repeat (first | with_reducible refine (drew_heap _ _).trans ?_ | ((with_reducible refine alloc_new' _ _ _ ?_); (focus (first | rfl | (simp; done)))) | ((with_reducible refine (alloc_old _ _ ?_).trans ?_); (focus (first | (simp; done) | (simp; omega) | omega))) | ((with_reducible refine (Below.block (by assumption) _ ?_).trans ?_); (focus (first | (simp; done) | (simp; omega) | omega))))); done)); rintro e w2 ⟨A2, c2, rfl, rp2, hc2, hb2⟩; have o2 := OldOf.below (by assumption) hb2; have hs2 := hb2.size; (try simp at hs2))
            | ((with_reducible refine (L1.out _ _ _ ?_).mono ?_); (focus ((repeat (first | assumption | with_reducible refine rp_drew ?_ | with_reducible refine rp_alloc ?_ _ | with_reducible refine rp_below ?_ (by assumption))); done)); rintro e w2 ⟨A2, c2, rfl, rp2, hc2, hb2⟩; have o2 := OldOf.below (by assumption) hb2; have hs2 := hb2.size; (try simp at hs2))
            | ((with_reducible refine (T1.out _ _ _ _ _ ?_ ?_).mono ?_); (focus ((repeat (first | assumption | with_reducible refine rp_drew ?_ | with_reducible refine rp_alloc ?_ _ | with_reducible refine rp_below ?_ (by assumption))); done)); (focus ((repeat (first | assumption | with_reducible refine rp_drew ?_ | with_reducible refine rp_alloc ?_ _ | with_reducible refine rp_below ?_ (by assumption))); done)); rintro e w2 ⟨rfl, hb2⟩; have o2 := OldOf.below (by assumption) hb2; have hs2 := hb2.size; (try simp at hs2))))
          all_goals (go_wp2_with fail; go_meet; refine ⟨rfl, Lib.hid (OldOf.undrew ?_)⟩; first | assumption | exact o2)
        case rest =>
          obtain ⟨rfl, hbx⟩ := hcut
          obtain ⟨W4, hW⟩ : ∃ W, W = wc := ⟨_, rfl⟩; rw [← hW] at hbx ⊢; clear hW wc
          have HBX := Lib.hid (HBX.out.below hbx.out HBX.out.lt)
          have BB := Lib.hid (BB.out.trans (hbx.out.mono BB.out.size))
          clear hbx
          go_wp2_with fail
          go_ret
          exact ⟨rfl, BB.out⟩
end Go.Proofs.Ytdiknijbjmhacaa
