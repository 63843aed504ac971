/- WALKS: a list without neighbours that are equal. -/
import Derived.Test.YtdiknijbjmhacaaD2
import Derived.Test.YtdiknijbjmhacaaK8
set_option linter.unusedSimpArgs false
set_option linter.unusedVariables false
namespace Go.Proofs.Ytdiknijbjmhacaa
open Go.RowKit

theorem info_pt : (Try.prog.info? 24).map (fun i => (i.zero, i.size, i.bytes)) = some (some (.agg #[.int .i64 0, .int .i64 0]), 2, 16) := by kernel_rfl
theorem cmp_zero (l : List Cl.Pt) : Cl.cmpF (l.take 0) = [] := by simp [Cl.cmpF]
theorem cmp_step {l : List Cl.Pt} {k : Nat} (hk : k < l.length) : Cl.cmpF (l.take (k + 1)) = if (l.take k).getLast? = some l[k] then Cl.cmpF (l.take k) else Cl.cmpF (l.take k) ++ [l[k]] := by
  rw [List.take_succ_eq_append_getElem hk, Cl.cmpF_snoc]
theorem take_last {l : List Cl.Pt} {k : Nat} (hk : k + 1 < l.length) : (l.take (k + 1)).getLast? = some l[k] := by
  rw [List.take_succ_eq_append_getElem (by omega), List.getLast?_append]; rfl
theorem cmp_len (l : List Cl.Pt) : (Cl.cmpF l).length ≤ l.length := by
  have : ∀ (r : List Cl.Pt) (x : Cl.Pt), (Cl.cmpT x r).length ≤ r.length := by
    intro r
    induction r with
    | nil => intro x; simp [Cl.cmpT]
    | cons y r ih =>
      intro x
      simp only [Cl.cmpT]
      split
      · have := ih x; simp; omega
      · have := ih y; simp; omega
  cases l with
  | nil => simp [Cl.cmpF]
  | cons x r => have := this r x; simp [Cl.cmpF]; omega

set_option maxHeartbeats 1600000 in
theorem rdiff_any (A : Option Addr) (c : Nat) (l : List Cl.Pt) (w : World) (hl : l.length ≤ 1000000) (h : Rp w A l) :
    Calls Try.prog 21 #[.slice A l.length c] w fun e w' => ∃ v : Value, e = .returned v ∧ w'.ownsRow w.heap.size 24 2 v (Cl.cmpF l).length ((Cl.cmpF l).flatMap ptCells) ∧ Below w.heap.size w w' := by
  have H := Lib.hid h; clear h
  go_enter Try.func21, Try.ntmps21
  go_wp2
  go_loopw [3, 4] (fun v i wr => ∃ k : Nat, k ≤ l.length ∧ i = .int .i64 k ∧ Hid (wr.ownsRow w.heap.size 24 2 v (Cl.cmpF (l.take k)).length ((Cl.cmpF (l.take k)).flatMap ptCells)) ∧ Hid (Below w.heap.size w wr)) (fun _ i _ => l.length - (intOf i).toNat)
  case atStart => exact ⟨0, Nat.zero_le _, rfl, by rw [cmp_zero]; exact World.ownsRow_nil _ _ _ _, Below.refl _ _⟩
  case round =>
    obtain ⟨k, hk, rfl, hown, hbel⟩ := hrel
    by_cases hlt : k < l.length
    · obtain ⟨b, off, rfl, hb, hc0, hc1⟩ := (H.out.below hbel.out).at_ hlt
      have hsz : w.heap.size ≤ wr.heap.size := hbel.out.size
      have hcl : (Cl.cmpF (l.take k)).length ≤ 1000000 := by have := cmp_len (l.take k); simp at this; omega
      obtain ⟨x, hx⟩ : ∃ x, x = l[k].1 := ⟨_, rfl⟩
      obtain ⟨y, hy⟩ : ∃ y, y = l[k].2 := ⟨_, rfl⟩
      rw [← hx] at hc0; rw [← hy] at hc1
      have HX := Lib.hid hx; have HY := Lib.hid hy; clear hx hy
      have yes : Hid ((l.take k).getLast? = some l[k] → Cl.cmpF (l.take (k + 1)) = Cl.cmpF (l.take k)) := Lib.hid (fun h => by rw [cmp_step hlt, if_pos h])
      have no : Hid (¬ (l.take k).getLast? = some l[k] → Cl.cmpF (l.take (k + 1)) = Cl.cmpF (l.take k) ++ [l[k]]) := Lib.hid (fun h => by rw [cmp_step hlt, if_neg h])
      have add : Hid (∀ (v1 : Value) (w1 : World), w1.ownsRow w.heap.size 24 2 v1 ((Cl.cmpF (l.take k)).length + 1) ((Cl.cmpF (l.take k)).flatMap ptCells ++ [.int .i64 x, .int .i64 y]) → Cl.cmpF (l.take (k + 1)) = Cl.cmpF (l.take k) ++ [l[k]] → w1.ownsRow w.heap.size 24 2 v1 (Cl.cmpF (l.take (k + 1))).length ((Cl.cmpF (l.take (k + 1))).flatMap ptCells)) := Lib.hid (fun v1 w1 h e => by
        rw [e, List.flatMap_append, List.length_append]
        simp only [List.flatMap_cons, List.flatMap_nil, ptCells, List.append_nil, List.length_singleton]
        rw [← HX.out, ← HY.out]; exact h)
      rcases k with _ | k
      · have e0 : ((0 : Nat) : Int) = 0 := rfl
        have hq : (((0 : Nat) : Int) == 0) = true := by simp
        rw [e0]
        have hd0 : wr.cell? ⟨b, off, none⟩ = some (.int .i64 x) := by simpa using hc0
        have hd1 : wr.cell? ⟨b, off + 1, none⟩ = some (.int .i64 y) := by simpa using hc1
        clear hc0 hc1
        go_wp2_with fail
        go_quiet (fail)
        go_wp2_with (at_builtin; refine wpList_app1 rfl (.tmp 25) (.tmp 30) 22 rfl Try.underlying22 info_pt rfl (by decide) w.heap.size _ _ _ _ _ rfl (by simp [Value.oneCell']) rfl rfl (by simp) (by exact hown.out) hsz (by omega) (by omega) ?_; intro v1 w1 hown1 hb1)
        refine ⟨⟨1, by omega, rfl, ?_, Lib.hid ((below_drewN hbel.out _).trans hb1)⟩, by simp [intOf]; omega⟩
        exact Lib.hid (add.out v1 w1 (by simpa using hown1) (no.out (by simp)))
      · have hkl : k < l.length := by omega
        obtain ⟨b', off', e', hb', hd0, hd1⟩ := (H.out.below hbel.out).at_ hkl
        cases e'
        obtain ⟨x', hx'⟩ : ∃ x, x = l[k].1 := ⟨_, rfl⟩
        obtain ⟨y', hy'⟩ : ∃ y, y = l[k].2 := ⟨_, rfl⟩
        rw [← hx'] at hd0; rw [← hy'] at hd1
        have HX' := Lib.hid hx'; have HY' := Lib.hid hy'; clear hx' hy'
        have hk1 : ((k + 1 : Nat) : Int) = (k : Int) + 1 := by omega
        have hq : ((k : Int) + 1 == 0) = false := by simp; omega
        have hs : (k : Int) + 1 - 1 = (k : Int) := by omega
        have hw : IntKind.i64.wrap ((k : Int) + 1 - 1) = (k : Int) := by rw [hs]; exact IntWalk.i64_in _ (by omega)
        rw [hk1]
        by_cases ex : x = x'
        · have ex' : (x == x') = true := by simpa using ex
          by_cases ey : y = y'
          · have ey' : (y == y') = true := by simpa using ey
            have he : l[k] = l[k + 1] := Prod.ext (by rw [← HX.out, ← HX'.out]; exact ex.symm) (by rw [← HY.out, ← HY'.out]; exact ey.symm)
            have YES := Lib.hid (yes.out (by rw [take_last hlt, he]))
            clear he ex ey
            go_wp2_with fail
            go_quiet (fail)
            go_wp2_with fail
            refine ⟨⟨k + 1 + 1, by omega, by go_num, ?_, Lib.hid (below_drewN hbel.out _)⟩, by simp [intOf]; omega⟩
            rw [YES.out]; exact hown
          · have ey' : (y == y') = false := by simpa using ey
            have hne : l[k] ≠ l[k + 1] := fun e => ey (by rw [HY.out, HY'.out, e])
            have NO := Lib.hid (no.out (by rw [take_last hlt]; simpa using hne))
            clear hne ex ey
            go_wp2_with fail
            go_quiet (fail)
            go_wp2_with (at_builtin; refine wpList_app1 rfl (.tmp 25) (.tmp 30) 22 rfl Try.underlying22 info_pt rfl (by decide) w.heap.size _ _ _ _ _ rfl (by simp [Value.oneCell']) rfl rfl (by simp) (by exact hown.out) hsz (by omega) (by omega) ?_; intro v1 w1 hown1 hb1)
            refine ⟨⟨k + 1 + 1, by omega, by go_num, ?_, Lib.hid ((below_drewN hbel.out _).trans hb1)⟩, by simp [intOf]; omega⟩
            exact Lib.hid (add.out v1 w1 (by simpa using hown1) NO.out)
        · have ex' : (x == x') = false := by simpa using ex
          have hne : l[k] ≠ l[k + 1] := fun e => ex (by rw [HX.out, HX'.out, e])
          have NO := Lib.hid (no.out (by rw [take_last hlt]; simpa using hne))
          clear hne ex
          go_wp2_with fail
          go_quiet (fail)
          go_wp2_with (at_builtin; refine wpList_app1 rfl (.tmp 25) (.tmp 30) 22 rfl Try.underlying22 info_pt rfl (by decide) w.heap.size _ _ _ _ _ rfl (by simp [Value.oneCell']) rfl rfl (by simp) (by exact hown.out) hsz (by omega) (by omega) ?_; intro v1 w1 hown1 hb1)
          refine ⟨⟨k + 1 + 1, by omega, by go_num, ?_, Lib.hid ((below_drewN hbel.out _).trans hb1)⟩, by simp [intOf]; omega⟩
          exact Lib.hid (add.out v1 w1 (by simpa using hown1) NO.out)
    · have he : Hid (l.take k = l) := Lib.hid (by rw [List.take_of_length_le (by omega)])
      go_wp2
      go_ret
      have := hown.out
      rw [he.out] at this
      exact ⟨_, rfl, this, hbel.out⟩
end Go.Proofs.Ytdiknijbjmhacaa
