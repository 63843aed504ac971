/- WALKS: slices.Compact at points, in place: the walk. -/
import Derived.Test.YtdiknijbjmhacaaC7
set_option linter.unusedSimpArgs false
set_option linter.unusedVariables false
namespace Go.Proofs.Ytdiknijbjmhacaa
open Go.RowKit

theorem compact_short (A : Option Addr) (n c : Nat) (w : World) (h : n < 2) :
    Calls Try.prog 28 #[.slice A n c] w fun e w' => e = .returned (.slice A n c) ∧ w = w' := by
  go_enter Try.func28, Try.ntmps28
  go_wp2
  go_ret
  exact ⟨rfl, rfl⟩

set_option maxHeartbeats 2000000 in
theorem compact_long (g off c : Nat) (l : List Cl.Pt) (w : World) (h2 : 2 ≤ l.length) (hl : l.length ≤ c) (hc : c ≤ 9223372036854775807) (h : PtRow w g off l) :
    Calls Try.prog 28 #[.slice (some ⟨g, off, none⟩) l.length c] w fun e w' => e = .returned (.slice (some ⟨g, off, none⟩) (Cl.cmpF l).length c) ∧ PtRow w' g off (Cl.cmpF l) ∧ But (· = g) w w' := by
  have H := Lib.hid h; clear h
  obtain ⟨n, hn⟩ : ∃ n, n = l.length := ⟨_, rfl⟩
  rw [← hn] at h2 hl ⊢
  have HN := Lib.hid hn; clear hn
  have hlt2 : ¬ n < 2 := by omega
  go_enter Try.func28, Try.ntmps28
  go_wp2
  go_loopw [3] (fun i wr => ∃ k q : Nat, 1 ≤ k ∧ k ≤ n ∧ i = .int .i64 k ∧ wr = w.drewN q ∧ Hid (Cl.cmpF (l.take k) = l.take k)) (fun i _ => n - (intOf i).toNat)
  case atStart => exact ⟨1, 0, Nat.le_refl _, by omega, rfl, rfl, Lib.hid Cl.cmp_one⟩
  case round =>
    obtain ⟨k, q, hk1, hk, rfl, rfl, hall⟩ := hrel
    by_cases hlt : k < n
    · have hkl : k < l.length := by have := HN.out; omega
      obtain ⟨c0, c1⟩ := H.out.cell k hkl
      obtain ⟨d0, d1⟩ := H.out.cell (k - 1) (by omega)
      obtain ⟨x, hx⟩ : ∃ x, x = l[k].1 := ⟨_, rfl⟩
      obtain ⟨y, hy⟩ : ∃ y, y = l[k].2 := ⟨_, rfl⟩
      obtain ⟨x', hx'⟩ : ∃ x, x = l[k - 1].1 := ⟨_, rfl⟩
      obtain ⟨y', hy'⟩ : ∃ y, y = l[k - 1].2 := ⟨_, rfl⟩
      rw [← hx] at c0; rw [← hy] at c1; rw [← hx'] at d0; rw [← hy'] at d1
      have HX := Lib.hid hx; have HY := Lib.hid hy; have HX' := Lib.hid hx'; have HY' := Lib.hid hy'; clear hx hy hx' hy'
      have k1 : (0 : Int) ≤ (k : Int) - 1 := by omega
      have k2 : ((k : Int) - 1).toNat = k - 1 := by omega
      have k3 : IntKind.i64.wrap ((k : Int) - 1) = (k : Int) - 1 := IntWalk.i64_in _ (by omega)
      by_cases ex : x = x'
      · have ex' : (x == x') = true := by simpa using ex
        by_cases ey : y = y'
        · have ey' : (y == y') = true := by simpa using ey
          have he : l[k] = l[k - 1] := Prod.ext (by rw [← HX.out, ← HX'.out]; exact ex) (by rw [← HY.out, ← HY'.out]; exact ey)
          have ST := Lib.hid (Cl.CI.start hk1 hkl hall.out he)
          have hkc : ¬ c = k := by omega
          clear he ex ey
          go_wp2_with fail
          go_quiet (fail)
          clear k1 k2 k3
          go_wp2
          have hk0 := hk1
          go_loopw [3, 5] (fun s3 s5 wr => ∃ kk k2 : Nat, ∃ m : List Cl.Pt, s3 = .int .i64 kk ∧ s5 = .int .i64 k2 ∧ 1 ≤ k2 ∧ k + k2 ≤ n ∧ Hid (PtRow wr g off m) ∧ Hid (Cl.CI l m (k + k2) kk) ∧ Hid (But (· = g) w wr)) (fun _ i _ => n - k - (intOf i).toNat)
          case atStart => exact ⟨k, 1, l, rfl, rfl, Nat.le_refl _, by omega, Lib.hid (H.out.drewN _), ST, Lib.hid ((But.refl _ _).drewN _)⟩
          case round =>
            obtain ⟨kk, k2, m, rfl, rfl, g1, g2, HM, HI, HB⟩ := hrel
            have hml : m.length = n := by rw [HI.out.len, HN.out]
            have hkk : kk + 1 ≤ k + k2 := HI.out.lt
            clear HX HY HX' HY' ST
            by_cases hlt3 : k + k2 < n
            · have hjl : k + k2 < l.length := by have := HN.out; omega
              have m0 : m[k + k2]'(by omega) = l[k + k2] := by
                have := HI.out.high (k + k2) (by omega)
                rw [List.getElem?_eq_getElem (by omega), List.getElem?_eq_getElem hjl] at this
                exact Option.some.inj this
              have m1 : m[k + k2 - 1]'(by omega) = l[k + k2 - 1] := by
                have := HI.out.high (k + k2 - 1) (by omega)
                rw [List.getElem?_eq_getElem (by omega), List.getElem?_eq_getElem (by omega)] at this
                exact Option.some.inj this
              obtain ⟨c0, c1⟩ := HM.out.cell (k + k2) (by omega)
              obtain ⟨d0, d1⟩ := HM.out.cell (k + k2 - 1) (by omega)
              obtain ⟨e0, e1⟩ := HM.out.cell kk (by omega)
              have f0 := HM.out.free (off + kk * 2)
              have f1 := HM.out.free (off + kk * 2 + 1)
              rw [m0, show off + (k + k2) * 2 = off + k * 2 + k2 * 2 by omega] at c0 c1
              rw [m1, show off + (k + k2 - 1) * 2 = off + k * 2 + (k2 - 1) * 2 by omega] at d0 d1
              obtain ⟨x, hx⟩ : ∃ x, x = l[k + k2].1 := ⟨_, rfl⟩
              obtain ⟨y, hy⟩ : ∃ y, y = l[k + k2].2 := ⟨_, rfl⟩
              obtain ⟨x', hx'⟩ : ∃ x, x = l[k + k2 - 1].1 := ⟨_, rfl⟩
              obtain ⟨y', hy'⟩ : ∃ y, y = l[k + k2 - 1].2 := ⟨_, rfl⟩
              rw [← hx] at c0; rw [← hy] at c1; rw [← hx'] at d0; rw [← hy'] at d1
              have HX := Lib.hid hx; have HY := Lib.hid hy; have HX' := Lib.hid hx'; have HY' := Lib.hid hy'; clear hx hy hx' hy' m0 m1
              have k1 : (0 : Int) ≤ (k2 : Int) - 1 := by omega
              have k3 : ((k2 : Int) - 1).toNat = k2 - 1 := by omega
              have k4 : IntKind.i64.wrap ((k2 : Int) - 1) = (k2 : Int) - 1 := IntWalk.i64_in _ (by omega)
              have hb : k2 < n - k := by omega
              by_cases ex : l[k + k2] = l[k + k2 - 1]
              · have ex' : (x == x') = true := by rw [HX.out, HX'.out, ex]; simp
                have ey' : (y == y') = true := by rw [HY.out, HY'.out, ex]; simp
                have SK := Lib.hid (HI.out.skip (by omega) hjl ex)
                clear ex e0 e1 f0 f1
                go_wp2_with fail
                go_quiet (fail)
                clear k1 k3 k4
                go_wp2
                refine ⟨⟨kk, k2 + 1, m, rfl, by go_num, by omega, by omega, Lib.hid (HM.out.drewN _), SK, Lib.hid (HB.out.drewN _)⟩, by simp [intOf]; omega⟩
              · have KE := Lib.hid (HI.out.keep (by omega) hjl ex)
                have FIN : Hid (∀ q, PtRow ((((wr.drewN q).setCell ⟨g, off + kk * 2, none⟩ (.int .i64 x)).setCell ⟨g, off + kk * 2 + 1, none⟩ (.int .i64 y))) g off (m.set kk l[k + k2]) ∧ But (· = g) w ((((wr.drewN q).setCell ⟨g, off + kk * 2, none⟩ (.int .i64 x)).setCell ⟨g, off + kk * 2 + 1, none⟩ (.int .i64 y)))) := Lib.hid (fun q => by
                  have := (HM.out.drewN q).set (k := kk) (by omega) l[k + k2]
                  rw [← HX.out, ← HY.out] at this
                  exact ⟨this, ((HB.out.drewN q).set rfl _).set rfl _⟩)
                by_cases exx : x = x'
                · have ex' : (x == x') = true := by simpa using exx
                  have ey' : (y == y') = false := by
                    simp; intro e; exact ex (Prod.ext (by rw [← HX.out, ← HX'.out]; exact exx) (by rw [← HY.out, ← HY'.out]; exact e))
                  clear exx ex
                  go_wp2_with fail
                  go_quiet (fail)
                  clear k1 k3 k4
                  go_wp2
                  refine ⟨⟨kk + 1, k2 + 1, _, by go_num, by go_num, by omega, by omega, Lib.hid (FIN.out _).1, KE, Lib.hid (FIN.out _).2⟩, by simp [intOf]; omega⟩
                · have ex' : (x == x') = false := by simpa using exx
                  clear exx ex
                  go_wp2_with fail
                  go_quiet (fail)
                  clear k1 k3 k4
                  go_wp2
                  refine ⟨⟨kk + 1, k2 + 1, _, by go_num, by go_num, by omega, by omega, Lib.hid (FIN.out _).1, KE, Lib.hid (FIN.out _).2⟩, by simp [intOf]; omega⟩
            · have hj : k + k2 = l.length := by have := HN.out; omega
              have DN := HI.out
              rw [hj] at DN
              have DN := Lib.hid DN.done
              have hkc2 : ¬ c = kk := by omega
              have hcl : ∀ ty, (Builtin.clear_ #[22] ty #[.slice (some ⟨g, off + kk * 2, none⟩) (n - kk) (c - kk)]).run Try.prog wr = .ok (.tuple #[]) (wr.setCells g (off + kk * 2) (List.replicate ((n - kk) * 2) (.int .i64 0))) := fun ty =>
                run_clear_pts wr _ _ ty _ Try.underlying22 info_pt g _ _ _ (by omega) (fun j hj => by
                  have := pt_at wr g off m HM.out.cell (kk * 2 + j) ((m.flatMap ptCells)[kk * 2 + j]'(by rw [ptCells_len]; omega)) (List.getElem?_eq_getElem _)
                  rw [← Nat.add_assoc] at this
                  rw [this]; rfl) (fun j _ => HM.out.free _)
              clear hj
              go_wp2
              go_ret
              refine ⟨by rw [← DN.out.2]; rfl, ?_, But.setCells (X := (· = g)) rfl _ _ _ HB.out⟩
              rw [← DN.out.1]; exact HM.out.clear kk _ _
        · have ey' : (y == y') = false := by simpa using ey
          have hne : l[k] ≠ l[k - 1] := fun e => ey (by rw [HY.out, HY'.out, e])
          have ON := Lib.hid (Cl.cmp_on hk1 hkl hall.out hne)
          clear hne ex ey
          go_wp2_with fail
          go_quiet (fail)
          clear k1 k2 k3
          go_wp2
          exact ⟨⟨k + 1, _, by omega, by omega, by go_num, by first | rfl | exact (by simp [World.drewN, Nat.add_assoc]; rfl), ON⟩, by simp [intOf]; omega⟩
      · have ex' : (x == x') = false := by simpa using ex
        have hne : l[k] ≠ l[k - 1] := fun e => ex (by rw [HX.out, HX'.out, e])
        have ON := Lib.hid (Cl.cmp_on hk1 hkl hall.out hne)
        clear hne ex
        go_wp2_with fail
        go_quiet (fail)
        clear k1 k2 k3
        go_wp2
        exact ⟨⟨k + 1, _, by omega, by omega, by go_num, by first | rfl | exact (by simp [World.drewN, Nat.add_assoc]; rfl), ON⟩, by simp [intOf]; omega⟩
    · have he : Hid (Cl.cmpF l = l ∧ (Cl.cmpF l).length = n) := by
        have h1 := hall.out; have h2 := HN.out
        rw [show k = l.length by omega, List.take_length] at h1
        exact Lib.hid ⟨h1, by rw [h1, h2]⟩
      go_wp2
      go_ret
      refine ⟨by rw [he.out.2]; rfl, ?_, (But.refl _ _).drewN _⟩
      rw [he.out.1]; exact H.out.drewN _
end Go.Proofs.Ytdiknijbjmhacaa
