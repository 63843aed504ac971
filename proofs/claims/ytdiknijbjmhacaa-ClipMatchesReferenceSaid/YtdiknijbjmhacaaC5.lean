/- WALKS: clip: a point at a parameter; a piece. -/
import Derived.Test.YtdiknijbjmhacaaC4
import Derived.Deep.RegionHeld3
import Derived.Deep.DrawnRows
set_option linter.unusedSimpArgs false
set_option linter.unusedVariables false
namespace Go.Proofs.Ytdiknijbjmhacaa
open Go.RowKit
attribute [local go_sem ↓] Go.wp_at_zero Go.wp_at_succ

theorem rround_bd {n d m : Int} (hs : Cl.Sm ⟨n, d⟩) (hm : -4194304 ≤ m ∧ m ≤ 4194304) : -100000000000000 ≤ Cl.rround ⟨n, d⟩ m ∧ Cl.rround ⟨n, d⟩ m ≤ 100000000000000 := by
  obtain ⟨hn1, hn2, hd1, hd2⟩ := hs
  simp only at hn1 hn2 hd1 hd2
  obtain ⟨h1, h2⟩ := mul_bd (a := 2 * n) (b := m) 8388608 4194304 (by omega) hm
  unfold Cl.rround
  simp only
  have h3 : 2 * n * m + d ≤ 100000000000000 := by omega
  have h4 : -100000000000000 ≤ 2 * n * m + d := by omega
  constructor
  · refine Int.le_ediv_of_mul_le (by omega) ?_
    have : (-100000000000000 : Int) * (2 * d) ≤ -100000000000000 := by omega
    omega
  · refine Int.ediv_le_of_le_mul (by omega) ?_
    have : (100000000000000 : Int) ≤ 100000000000000 * (2 * d) := by omega
    omega

theorem cell_far (w : World) (p q : Addr) (u : Value) (h : q.block ≠ p.block) : (w.setCell p u).cell? q = w.cell? q := cell_same (Below.heap_setCell w p u q.block h)
set_option maxHeartbeats 2000000 in
theorem at_any (x y dx dy n d : Int) (gp gx gy : Nat) (w : World) (hs : Cl.Sm ⟨n, d⟩) (hx : -2097152 ≤ x ∧ x ≤ 2097152) (hy : -2097152 ≤ y ∧ y ≤ 2097152) (hdx : -4194304 ≤ dx ∧ dx ≤ 4194304) (hdy : -4194304 ≤ dy ∧ dy ≤ 4194304)
    (p0 : w.cell? ⟨gp, 0, none⟩ = some (.int .i64 x)) (p1 : w.cell? ⟨gp, 1, none⟩ = some (.int .i64 y)) (cx : w.cell? ⟨gx, 0, none⟩ = some (.int .i64 dx)) (cy : w.cell? ⟨gy, 0, none⟩ = some (.int .i64 dy))
    (l1 : gp < w.heap.size) (l2 : gx < w.heap.size) (l3 : gy < w.heap.size) :
    Calls Try.prog 50 #[.func (.func 51) #[.agg #[.int .i64 n, .int .i64 d]] #[], .pointer (some ⟨gp, 0, none⟩), .pointer (some ⟨gx, 0, none⟩), .pointer (some ⟨gy, 0, none⟩)] w
      fun e w' => e = .returned (.agg #[.int .i64 (x + Cl.rround ⟨n, d⟩ dx), .int .i64 (y + Cl.rround ⟨n, d⟩ dy)]) ∧ Below w.heap.size w w' := by
  have bx := rround_bd hs hdx
  have by_ := rround_bd hs hdy
  obtain ⟨rx, hrx⟩ : ∃ r, r = Cl.rround ⟨n, d⟩ dx := ⟨_, rfl⟩
  obtain ⟨ry, hry⟩ : ∃ r, r = Cl.rround ⟨n, d⟩ dy := ⟨_, rfl⟩
  rw [← hrx] at bx ⊢
  rw [← hry] at by_ ⊢
  have RX : Hid (∀ u, Calls Try.prog 51 #[.agg #[.int .i64 n, .int .i64 d], .int .i64 dx] u fun e w' => e = .returned (.int .i64 rx) ∧ Below u.heap.size u w') := Lib.hid (fun u => by rw [hrx]; exact round_any n d dx u hs hdx)
  have RY : Hid (∀ u, Calls Try.prog 51 #[.agg #[.int .i64 n, .int .i64 d], .int .i64 dy] u fun e w' => e = .returned (.int .i64 ry) ∧ Below u.heap.size u w') := Lib.hid (fun u => by rw [hry]; exact round_any n d dy u hs hdy)
  clear hrx hry hs hdx hdy
  have w1 : IntKind.i64.wrap (x + rx) = x + rx := IntWalk.i64_in _ (by omega)
  have w2 : IntKind.i64.wrap (y + ry) = y + ry := IntWalk.i64_in _ (by omega)
  clear bx by_ hx hy
  have n1 : gp ≠ w.heap.size := by omega
  have n2 : gx ≠ w.heap.size := by omega
  have n3 : gy ≠ w.heap.size := by omega
  go_enter Try.func50, Try.ntmps50
  go_wp2_with fail
  go_region_held3 (fun w' => w'.cell? ⟨gp, 0, none⟩ = some (.int .i64 x) ∧ w'.cell? ⟨gp, 1, none⟩ = some (.int .i64 y) ∧ w'.cell? ⟨gx, 0, none⟩ = some (.int .i64 dx) ∧ w'.cell? ⟨gy, 0, none⟩ = some (.int .i64 dy))
    (first
      | go_keep
      | ((try go_split_ands); (try dsimp only); (repeat' apply And.intro) <;> (first | (rw [World.cell?_setCell_far _ _ _ _ (by first | assumption | (symm; assumption)), World.cell?_setCell_far _ _ _ _ (by first | assumption | (symm; assumption))]; assumption) | (rw [cell_far _ _ _ _ (by assumption), cell_far _ _ _ _ (by assumption)]; assumption) | (refine (hb2.cell (by first | (simp; done) | (simp; omega))).trans ?_; first | assumption | (simp [*]; done)) | (refine (hb2.frozen (by first | (simp; done) | (simp; omega))).trans ?_; first | assumption | (simp [*]; done)) | (refine (hb1.cell (by first | (simp; done) | (simp; omega))).trans ?_; first | assumption | (simp [*]; done)) | (refine (hb1.frozen (by first | (simp; done) | (simp; omega))).trans ?_; first | assumption | (simp [*]; done)))))
    (first
      | (go_at_call_of 51 (Value.int IntKind.i64 dx); refine (RX.out _).mono ?_; rintro e u1 ⟨rfl, hb1⟩; have hz1 := hb1.size; (try simp at hz1); have ra0 := (hb1.cell (p := ⟨w.heap.size, 0, none⟩) (by simp)); have ra1 := (hb1.cell (p := ⟨w.heap.size, 1, none⟩) (by simp)); have ra2 := (hb1.frozen (p := ⟨w.heap.size, 0, none⟩) (by simp)); have ra3 := (hb1.frozen (p := ⟨w.heap.size, 1, none⟩) (by simp)); simp at ra0 ra1 ra2 ra3)
      | (go_at_call_of 51 (Value.int IntKind.i64 dy); refine (RY.out _).mono ?_; rintro e u2 ⟨rfl, hb2⟩; have hz2 := hb2.size; (try simp at hz2); have rb0 := (hb2.cell (p := ⟨w.heap.size, 0, none⟩) (by simp; omega)).trans ra0; have rb1 := (hb2.cell (p := ⟨w.heap.size, 1, none⟩) (by simp; omega)).trans ra1; have rb2 := (hb2.frozen (p := ⟨w.heap.size, 0, none⟩) (by simp; omega)).trans ra2; have rb3 := (hb2.frozen (p := ⟨w.heap.size, 1, none⟩) (by simp; omega)).trans ra3))
  go_wp2
  have e0 := World.cell?_setCell_far (u2.setCell ⟨w.heap.size, 0, none⟩ (.int .i64 (x + rx))) ⟨w.heap.size, 1, none⟩
  have HB2 := hb2
  have HB1 : Below w.heap.size w u1 := (((Below.refl _ _).alloc (Nat.le_refl _) _).drew).trans (hb1.mono (by simp))
  refine bodyPost_ret (v := .agg #[.int .i64 (x + rx), .int .i64 (y + ry)]) (by simp [results, Try.results50, go_sem, rb0, rb1]) rfl ⟨rfl, ?_⟩
  exact ((HB1.trans (hb2.mono HB1.size)).setCell (by simp) _).setCell (by simp) _
end Go.Proofs.Ytdiknijbjmhacaa
