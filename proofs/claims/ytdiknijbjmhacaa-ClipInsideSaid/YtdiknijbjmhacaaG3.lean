/- WALKS: the law's 'inside' at a list whose points are in the box, neighbours different (printed by gen_g3.py). -/
import Derived.Test.YtdiknijbjmhacaaG2
set_option linter.unusedSimpArgs false
set_option linter.unusedVariables false
namespace Go.Proofs.Ytdiknijbjmhacaa
open Go.RowKit
attribute [local go_sem ↓] Go.wp_at_zero Go.wp_at_succ

theorem Dif.at_ : ∀ {l : List Cl.Pt}, Cl.Dif l → ∀ k (h : k + 1 < l.length), l[k] ≠ l[k + 1]
  | [], _, k, h => by simp at h
  | [_], _, k, h => by simp at h
  | x :: y :: l, hd, 0, _ => by
    have := hd.1
    first | exact this | exact Ne.symm this
  | x :: y :: l, hd, k + 1, h => by
    have := Dif.at_ (l := y :: l) hd.2 k (by simpa using h)
    simpa using this
theorem box_c {w : World} {g : Nat} {x0 y0 x1 y1 : Int} (h : BoxAt w g ⟨x0, y0, x1, y1⟩) : w.cell? ⟨g, 0, none⟩ = some (.int .i64 x0) ∧ w.cell? ⟨g, 1, none⟩ = some (.int .i64 y0) ∧ w.cell? ⟨g, 2, none⟩ = some (.int .i64 x1) ∧ w.cell? ⟨g, 3, none⟩ = some (.int .i64 y1) := h.c

set_option maxHeartbeats 8000000 in
theorem inside_any (A : Option Addr) (n c : Nat) (l : List Cl.Pt) (x0 y0 x1 y1 : Int) (w : World) (hn : n = l.length) (hl : n ≤ 1000000) (h : Rp w A l) (hin : ∀ p ∈ l, Cl.inB p ⟨x0, y0, x1, y1⟩ = true) (hd : Cl.Dif l) :
    Calls Try.prog 17 #[.slice A n c, .agg #[.int .i64 x0, .int .i64 y0, .int .i64 x1, .int .i64 y1]] w fun e w' => e = .returned (.bool true) ∧ Below w.heap.size w w' := by
  have H := Lib.hid h; have HN := Lib.hid hn; have HI := Lib.hid hin; have HD := Lib.hid hd; clear h hn hin hd
  have BB : Hid (Below w.heap.size w (w.alloc (.cells #[.int .i64 x0, .int .i64 y0, .int .i64 x1, .int .i64 y1] 26))) := Lib.hid ((Below.refl _ _).alloc (Nat.le_refl _) _)
  have BX : Hid (BoxAt (w.alloc (.cells #[.int .i64 x0, .int .i64 y0, .int .i64 x1, .int .i64 y1] 26)) w.heap.size ⟨x0, y0, x1, y1⟩) := Lib.hid (heap_alloc_new w _)
  go_enter Try.func17, Try.ntmps17
  go_wp2_with fail
  go_loopw [5] (fun i wr => ∃ k : Nat, k ≤ n ∧ i = .int .i64 k ∧ Hid (BoxAt wr w.heap.size ⟨x0, y0, x1, y1⟩) ∧ Hid (Below w.heap.size w wr)) (fun i _ => n - (intOf i).toNat)
  case atStart => exact ⟨0, Nat.zero_le _, rfl, BX, BB⟩
  case round =>
    obtain ⟨k, hk, rfl, hbx, hbel⟩ := hrel
    clear BB BX
    by_cases hlt : k < n
    · have hkl : k < l.length := by have := HN.out; omega
      obtain ⟨q0, q1, q2, q3⟩ := box_c hbx.out
      obtain ⟨b, off, rfl, hb, c0, c1⟩ := (H.out.below hbel.out).at_ hkl
      have HZ : Hid (w.heap.size ≤ wr.heap.size) := Lib.hid hbel.out.size
      obtain ⟨x, hx⟩ : ∃ x, x = l[k].1 := ⟨_, rfl⟩
      obtain ⟨y, hy⟩ : ∃ y, y = l[k].2 := ⟨_, rfl⟩
      rw [← hx] at c0; rw [← hy] at c1
      have IN : Hid (∀ u, Calls Try.prog 20 #[.agg #[.int .i64 x, .int .i64 y], .agg #[.int .i64 x0, .int .i64 y0, .int .i64 x1, .int .i64 y1]] u fun e w' => e = .returned (.bool true) ∧ Below u.heap.size u w') := Lib.hid (fun u => by
        have := rin_pt x y x0 y0 x1 y1 u
        rw [HI.out (x, y) (by rw [hx, hy]; exact List.getElem_mem hkl)] at this; exact this)
      have C0 : ∀ w', OldOf wr.drew w' → w'.cell? ⟨b, off + k * 2, none⟩ = some (.int .i64 x) := fun w' h => h.c (by exact c0)
      have C1 : ∀ w', OldOf wr.drew w' → w'.cell? ⟨b, off + k * 2 + 1, none⟩ = some (.int .i64 y) := fun w' h => h.c (by exact c1)
      have Q0 : ∀ w', OldOf wr.drew w' → w'.cell? ⟨w.heap.size, 0, none⟩ = some (.int .i64 x0) := fun w' h => h.c (by exact q0)
      have Q1 : ∀ w', OldOf wr.drew w' → w'.cell? ⟨w.heap.size, 1, none⟩ = some (.int .i64 y0) := fun w' h => h.c (by exact q1)
      have Q2 : ∀ w', OldOf wr.drew w' → w'.cell? ⟨w.heap.size, 2, none⟩ = some (.int .i64 x1) := fun w' h => h.c (by exact q2)
      have Q3 : ∀ w', OldOf wr.drew w' → w'.cell? ⟨w.heap.size, 3, none⟩ = some (.int .i64 y1) := fun w' h => h.c (by exact q3)
      have o0 : OldOf wr.drew wr.drew := OldOf.refl _
      clear c0 c1 q0 q1 q2 q3
      rcases k with _ | k
      · have e0 : ((0 : Nat) : Int) = 0 := rfl
        have D0 : ∀ w', OldOf wr.drew w' → w'.cell? ⟨b, off, none⟩ = some (.int .i64 x) := fun w' h => by have := C0 w' h; simpa using this
        have D1 : ∀ w', OldOf wr.drew w' → w'.cell? ⟨b, off + 1, none⟩ = some (.int .i64 y) := fun w' h => by have := C1 w' h; simpa using this
        have n0 : 0 < n := hlt
        have n1 : (0 : Int) < (n : Int) := by omega
        clear C0 C1 hx hy
        rw [e0]
        go_wp2_with fail
        refine wp_region_noPanic ?_
        refine wp_region_held_drew (S := fun w' => OldOf wr.drew w') (by kernel_rfl) ?_ (fun hHeld => ?_)
        · exact o0
        refine wpAnyH_take (i := 0) (oi := _) (v := ?_) rfl (by kernel_rfl) (by kernel_rfl) (by kernel_rfl) (fun _ _ _ h => h) (Or.inl ⟨by rfl, ?_⟩) (by assumption) ?_
        rotate_left
        · intro w hSw; (try dsimp only at hSw); go_simp; all_goals (with_reducible rfl)
        try simp only [Act.put, List.getElem_toArray, List.getElem_cons_zero, List.getElem_cons_succ, List.setIfInBounds_toArray, List.set_cons_zero, List.set_cons_succ]
        refine wpAnyH_take (i := 1) (oi := _) (v := ?_) rfl (by kernel_rfl) (by kernel_rfl) (by kernel_rfl) (fun _ _ _ h => h) (Or.inl ⟨by rfl, ?_⟩) (by assumption) ?_
        rotate_left
        · intro w hSw; (try dsimp only at hSw); go_simp; all_goals (with_reducible rfl)
        try simp only [Act.put, List.getElem_toArray, List.getElem_cons_zero, List.getElem_cons_succ, List.setIfInBounds_toArray, List.set_cons_zero, List.set_cons_succ]
        refine wpAnyH_take (i := 2) (oi := _) (v := ?_) rfl (by kernel_rfl) (by kernel_rfl) (by kernel_rfl) (fun _ _ _ h => h) (Or.inl ⟨by rfl, ?_⟩) (by assumption) ?_
        rotate_left
        · intro w hSw; (try dsimp only at hSw); go_simp; all_goals (with_reducible rfl)
        try simp only [Act.put, List.getElem_toArray, List.getElem_cons_zero, List.getElem_cons_succ, List.setIfInBounds_toArray, List.set_cons_zero, List.set_cons_succ]
        refine wpAnyH_take (i := 3) (oi := _) (v := ?_) rfl (by kernel_rfl) (by kernel_rfl) (by kernel_rfl) (fun _ _ _ h => h) (Or.inl ⟨by rfl, ?_⟩) (by assumption) ?_
        rotate_left
        · intro w hSw; (try dsimp only at hSw); go_simp; all_goals (with_reducible rfl)
        try simp only [Act.put, List.getElem_toArray, List.getElem_cons_zero, List.getElem_cons_succ, List.setIfInBounds_toArray, List.set_cons_zero, List.set_cons_succ]
        refine wpAnyH_take (i := 4) (oi := _) (v := ?_) rfl (by kernel_rfl) (by kernel_rfl) (by kernel_rfl) (fun _ _ _ h => h) (Or.inl ⟨by rfl, ?_⟩) (by assumption) ?_
        rotate_left
        · intro w hSw; (try dsimp only at hSw); go_simp; all_goals (with_reducible rfl)
        try simp only [Act.put, List.getElem_toArray, List.getElem_cons_zero, List.getElem_cons_succ, List.setIfInBounds_toArray, List.set_cons_zero, List.set_cons_succ]
        refine wpAnyH_ready (rs := [5]) (by kernel_rfl) (by simp) ?_
        refine AllReadyH.cons (o := _) rfl (fun K hK => ?_) AllReadyH.nil
        go_simp
        refine (IN.out _).mono ?_
        rintro e w2 ⟨rfl, hb2⟩
        have o2 := OldOf.below hHeld hb2
        refine hK.out _ _ (OldOf.below hHeld hb2) (fun hHeld2 => ?_)
        clear hK K hHeld
        have hHeld := hHeld2; clear hHeld2
        try simp only [Act.put, List.getElem_toArray, List.getElem_cons_zero, List.getElem_cons_succ, List.setIfInBounds_toArray, List.set_cons_zero, List.set_cons_succ]
        refine wpAnyH_take (i := 6) (oi := _) (v := .bool false) rfl (by kernel_rfl) (by kernel_rfl) (by kernel_rfl) (fun _ _ _ h => h) (Or.inl ⟨?_, ?_⟩) (by assumption) ?_
        · simp [Region.wanted, yielded]
        · intro w hSw; (try dsimp only at hSw); go_simp; all_goals (with_reducible rfl)
        try simp only [Act.put, List.getElem_toArray, List.getElem_cons_zero, List.getElem_cons_succ, List.setIfInBounds_toArray, List.set_cons_zero, List.set_cons_succ]
        refine wpAnyH_take (i := 7) (oi := _) (v := .bool false) rfl (by kernel_rfl) (by kernel_rfl) (by kernel_rfl) (fun _ _ _ h => h) (Or.inl ⟨?_, ?_⟩) (by assumption) ?_
        · simp [Region.wanted, yielded]
        · intro w hSw; (try dsimp only at hSw); go_simp; all_goals (with_reducible rfl)
        try simp only [Act.put, List.getElem_toArray, List.getElem_cons_zero, List.getElem_cons_succ, List.setIfInBounds_toArray, List.set_cons_zero, List.set_cons_succ]
        refine wpAnyH_take (i := 8) (oi := _) (v := .int .i64 0) rfl (by kernel_rfl) (by kernel_rfl) (by kernel_rfl) (fun _ _ _ h => h) (Or.inl ⟨?_, ?_⟩) (by assumption) ?_
        · simp [Region.wanted, yielded]
        · intro w hSw; (try dsimp only at hSw); go_simp; all_goals (with_reducible rfl)
        try simp only [Act.put, List.getElem_toArray, List.getElem_cons_zero, List.getElem_cons_succ, List.setIfInBounds_toArray, List.set_cons_zero, List.set_cons_succ]
        refine wpAnyH_take (i := 9) (oi := _) (v := .bool false) rfl (by kernel_rfl) (by kernel_rfl) (by kernel_rfl) (fun _ _ _ h => h) (Or.inl ⟨?_, ?_⟩) (by assumption) ?_
        · simp [Region.wanted, yielded]
        · intro w hSw; (try dsimp only at hSw); go_simp; all_goals (with_reducible rfl)
        try simp only [Act.put, List.getElem_toArray, List.getElem_cons_zero, List.getElem_cons_succ, List.setIfInBounds_toArray, List.set_cons_zero, List.set_cons_succ]
        refine wpAnyH_take (i := 10) (oi := _) (v := .bool false) rfl (by kernel_rfl) (by kernel_rfl) (by kernel_rfl) (fun _ _ _ h => h) (Or.inl ⟨?_, ?_⟩) (by assumption) ?_
        · simp [Region.wanted, yielded]
        · intro w hSw; (try dsimp only at hSw); go_simp; all_goals (with_reducible rfl)
        try simp only [Act.put, List.getElem_toArray, List.getElem_cons_zero, List.getElem_cons_succ, List.setIfInBounds_toArray, List.set_cons_zero, List.set_cons_succ]
        refine wpAnyH_take (i := 11) (oi := _) (v := undef) rfl (by kernel_rfl) (by kernel_rfl) (by kernel_rfl) (fun _ _ _ h => h) (Or.inr ⟨?_, rfl⟩) (by assumption) ?_
        · simp [Region.wanted, yielded]
        try simp only [Act.put, List.getElem_toArray, List.getElem_cons_zero, List.getElem_cons_succ, List.setIfInBounds_toArray, List.set_cons_zero, List.set_cons_succ]
        refine wpAnyH_take (i := 12) (oi := _) (v := undef) rfl (by kernel_rfl) (by kernel_rfl) (by kernel_rfl) (fun _ _ _ h => h) (Or.inr ⟨?_, rfl⟩) (by assumption) ?_
        · simp [Region.wanted, yielded]
        try simp only [Act.put, List.getElem_toArray, List.getElem_cons_zero, List.getElem_cons_succ, List.setIfInBounds_toArray, List.set_cons_zero, List.set_cons_succ]
        refine wpAnyH_take (i := 13) (oi := _) (v := undef) rfl (by kernel_rfl) (by kernel_rfl) (by kernel_rfl) (fun _ _ _ h => h) (Or.inr ⟨?_, rfl⟩) (by assumption) ?_
        · simp [Region.wanted, yielded]
        try simp only [Act.put, List.getElem_toArray, List.getElem_cons_zero, List.getElem_cons_succ, List.setIfInBounds_toArray, List.set_cons_zero, List.set_cons_succ]
        refine wpAnyH_take (i := 14) (oi := _) (v := undef) rfl (by kernel_rfl) (by kernel_rfl) (by kernel_rfl) (fun _ _ _ h => h) (Or.inr ⟨?_, rfl⟩) (by assumption) ?_
        · simp [Region.wanted, yielded]
        try simp only [Act.put, List.getElem_toArray, List.getElem_cons_zero, List.getElem_cons_succ, List.setIfInBounds_toArray, List.set_cons_zero, List.set_cons_succ]
        refine wpAnyH_take (i := 15) (oi := _) (v := undef) rfl (by kernel_rfl) (by kernel_rfl) (by kernel_rfl) (fun _ _ _ h => h) (Or.inr ⟨?_, rfl⟩) (by assumption) ?_
        · simp [Region.wanted, yielded]
        try simp only [Act.put, List.getElem_toArray, List.getElem_cons_zero, List.getElem_cons_succ, List.setIfInBounds_toArray, List.set_cons_zero, List.set_cons_succ]
        refine wpAnyH_take (i := 16) (oi := _) (v := undef) rfl (by kernel_rfl) (by kernel_rfl) (by kernel_rfl) (fun _ _ _ h => h) (Or.inr ⟨?_, rfl⟩) (by assumption) ?_
        · simp [Region.wanted, yielded]
        try simp only [Act.put, List.getElem_toArray, List.getElem_cons_zero, List.getElem_cons_succ, List.setIfInBounds_toArray, List.set_cons_zero, List.set_cons_succ]
        refine wpAnyH_take (i := 17) (oi := _) (v := undef) rfl (by kernel_rfl) (by kernel_rfl) (by kernel_rfl) (fun _ _ _ h => h) (Or.inr ⟨?_, rfl⟩) (by assumption) ?_
        · simp [Region.wanted, yielded]
        try simp only [Act.put, List.getElem_toArray, List.getElem_cons_zero, List.getElem_cons_succ, List.setIfInBounds_toArray, List.set_cons_zero, List.set_cons_succ]
        refine wpAnyH_take (i := 18) (oi := _) (v := undef) rfl (by kernel_rfl) (by kernel_rfl) (by kernel_rfl) (fun _ _ _ h => h) (Or.inr ⟨?_, rfl⟩) (by assumption) ?_
        · simp [Region.wanted, yielded]
        try simp only [Act.put, List.getElem_toArray, List.getElem_cons_zero, List.getElem_cons_succ, List.setIfInBounds_toArray, List.set_cons_zero, List.set_cons_succ]
        refine wpAnyH_take (i := 19) (oi := _) (v := undef) rfl (by kernel_rfl) (by kernel_rfl) (by kernel_rfl) (fun _ _ _ h => h) (Or.inr ⟨?_, rfl⟩) (by assumption) ?_
        · simp [Region.wanted, yielded]
        try simp only [Act.put, List.getElem_toArray, List.getElem_cons_zero, List.getElem_cons_succ, List.setIfInBounds_toArray, List.set_cons_zero, List.set_cons_succ]
        refine wpAnyH_take (i := 20) (oi := _) (v := undef) rfl (by kernel_rfl) (by kernel_rfl) (by kernel_rfl) (fun _ _ _ h => h) (Or.inr ⟨?_, rfl⟩) (by assumption) ?_
        · simp [Region.wanted, yielded]
        try simp only [Act.put, List.getElem_toArray, List.getElem_cons_zero, List.getElem_cons_succ, List.setIfInBounds_toArray, List.set_cons_zero, List.set_cons_succ]
        refine wpAnyH_take (i := 21) (oi := _) (v := .bool false) rfl (by kernel_rfl) (by kernel_rfl) (by kernel_rfl) (fun _ _ _ h => h) (Or.inl ⟨?_, ?_⟩) (by assumption) ?_
        · simp [Region.wanted, yielded]
        · intro w hSw; (try dsimp only at hSw); go_simp; all_goals (with_reducible rfl)
        try simp only [Act.put, List.getElem_toArray, List.getElem_cons_zero, List.getElem_cons_succ, List.setIfInBounds_toArray, List.set_cons_zero, List.set_cons_succ]
        refine wpAnyH_take (i := 22) (oi := _) (v := .bool false) rfl (by kernel_rfl) (by kernel_rfl) (by kernel_rfl) (fun _ _ _ h => h) (Or.inl ⟨?_, ?_⟩) (by assumption) ?_
        · simp [Region.wanted, yielded]
        · intro w hSw; (try dsimp only at hSw); go_simp; all_goals (with_reducible rfl)
        try simp only [Act.put, List.getElem_toArray, List.getElem_cons_zero, List.getElem_cons_succ, List.setIfInBounds_toArray, List.set_cons_zero, List.set_cons_succ]
        refine wpAnyH_done (by kernel_rfl) ?_ _
        refine NoPanic.normal ?_
        clear D0 D1 Q0 Q1 Q2 Q3 IN e0 n0 n1 o0 hHeld
        go_wp2_with fail
        exact ⟨⟨1, by omega, rfl, Lib.hid (hbx.out.below o2.undrew hbx.out.lt), Lib.hid (hbel.out.trans (o2.undrew.mono hbel.out.size))⟩, by simp [intOf]; omega⟩
      · obtain ⟨b', off', e', hb', d0, d1⟩ := (H.out.below hbel.out).at_ (k := k) (by omega)
        cases e'
        obtain ⟨x', hx'⟩ : ∃ x, x = l[k].1 := ⟨_, rfl⟩
        obtain ⟨y', hy'⟩ : ∃ y, y = l[k].2 := ⟨_, rfl⟩
        rw [← hx'] at d0; rw [← hy'] at d1
        have NE : Hid (¬ (x = x' ∧ y = y')) := Lib.hid (by
          rintro ⟨e1, e2⟩
          exact Dif.at_ HD.out k hkl (Prod.ext (by rw [← hx, ← hx', e1]) (by rw [← hy, ← hy', e2])))
        have D0 : ∀ w', OldOf wr.drew w' → w'.cell? ⟨b, off + k * 2, none⟩ = some (.int .i64 x') := fun w' h => h.c (by exact d0)
        have D1 : ∀ w', OldOf wr.drew w' → w'.cell? ⟨b, off + k * 2 + 1, none⟩ = some (.int .i64 y') := fun w' h => h.c (by exact d1)
        clear d0 d1 hx hy hx' hy'
        have hk1 : ((k + 1 : Nat) : Int) = (k : Int) + 1 := by omega
        have hs : (k : Int) + 1 - 1 = (k : Int) := by omega
        have hw : IntKind.i64.wrap ((k : Int) + 1 - 1) = (k : Int) := by rw [hs]; exact IntWalk.i64_in _ (by omega)
        have hw2 : IntKind.i64.wrap (k : Int) = (k : Int) := IntWalk.i64_in _ (by omega)
        have hp : decide ((0 : Int) < (k : Int) + 1) = true := by simp
        have i1 : (k : Int) + 1 < (n : Int) := by omega
        have i2 : (0 : Int) ≤ (k : Int) + 1 := by omega
        have i3 : ((k : Int) + 1).toNat = k + 1 := by omega
        have i4 : k < n := by omega
        have i6 : (0 : Int) ≤ (k : Int) := by omega
        have i7 : ((k : Int)).toNat = k := by omega
        have i5 : (k : Int) < (n : Int) := by omega
        rw [hk1]
        by_cases ex : x = x'
        · have ex' : (x == x') = true := by simpa using ex
          have ey' : (y == y') = false := by simp; exact fun e => NE.out ⟨ex, e⟩
          clear ex
          go_wp2_with fail
          go_region_held3 (fun w' => OldOf wr.drew w') (first | assumption | exact o2) (((with_reducible refine (IN.out _).mono ?_); rintro e w2 ⟨rfl, hb2⟩; have o2 := OldOf.below (by assumption) hb2))
          go_wp2_with fail
          exact ⟨⟨k + 1 + 1, by omega, by go_num, Lib.hid (hbx.out.below o2.undrew hbx.out.lt), Lib.hid (hbel.out.trans (o2.undrew.mono hbel.out.size))⟩, by simp [intOf]; omega⟩
        · have ex' : (x == x') = false := by simpa using ex
          clear ex
          go_wp2_with fail
          go_region_held3 (fun w' => OldOf wr.drew w') (first | assumption | exact o2) (((with_reducible refine (IN.out _).mono ?_); rintro e w2 ⟨rfl, hb2⟩; have o2 := OldOf.below (by assumption) hb2))
          go_wp2_with fail
          exact ⟨⟨k + 1 + 1, by omega, by go_num, Lib.hid (hbx.out.below o2.undrew hbx.out.lt), Lib.hid (hbel.out.trans (o2.undrew.mono hbel.out.size))⟩, by simp [intOf]; omega⟩
    · go_wp2
      go_ret
      exact ⟨rfl, hbel.out⟩
end Go.Proofs.Ytdiknijbjmhacaa
