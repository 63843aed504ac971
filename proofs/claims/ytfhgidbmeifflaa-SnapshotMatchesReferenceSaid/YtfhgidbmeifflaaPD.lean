/- REFERENCE: Close; what is changed in place. -/
import Derived.Test.YtfhgidbmeifflaaPC
set_option linter.unusedSimpArgs false
set_option linter.unusedVariables false
namespace Go.Proofs.Ytfhgidbmeifflaa
open Go.RowKit Go.Maps Go.ChangeMaps Go.MapKept Go.WideShapes Go.WideMaps

theorem own_blk {w : World} {B size n : Nat} {e : TypeId} {v : Value} {X : List Value} (h : w.ownsRow B e size v n X) {g : Nat} (hg : v.ownBlock = some g) : ∃ cs, w.heap[g]? = some (.cells cs e (0, 0)) := by
  rcases h.2 with ⟨rfl, _⟩ | ⟨g', cap, cur, rfl, _, e3, _⟩
  · cases hg
  · cases hg; exact ⟨cur, e3⟩
theorem own_ne {w : World} {B B' size size' n n' : Nat} {e e' : TypeId} {v v' : Value} {X X' : List Value} (h : w.ownsRow B e size v n X) (h' : w.ownsRow B' e' size' v' n' X') (hne : e ≠ e') : Sep v v' := by
  intro g hg hg'
  obtain ⟨c1, h1⟩ := own_blk h hg
  obtain ⟨c2, h2⟩ := own_blk h' hg'
  rw [h1] at h2
  injection h2 with h2
  injection h2 with _ h2 _
  exact hne h2
theorem RefMem.ne_q {w : World} {q : Nat} {G : Nat → Prop} {t : RSh} {vn vr vo vk : Value} {vs : List Value} (h : RefMem w q G t vn vr vo vk vs) {B size n : Nat} {e : TypeId} {v : Value} {X : List Value} (ho : w.ownsRow B e size v n X) (hne : e ≠ 58) {g : Nat} (hg : v.ownBlock = some g) : g ≠ q := by
  rintro rfl
  obtain ⟨c1, h1⟩ := own_blk ho hg
  rw [h.blk] at h1
  injection h1 with h1
  injection h1 with _ h1 _
  exact hne h1.symm
/-- a change of the row of open readers alone -/
theorem RefMem.openSet {w w' : World} {q : Nat} {G : Nat → Prop} {t : RSh} {vn vr vo vk : Value} {vs : List Value} (h : RefMem w q G t vn vr vo vk vs) {g : Nat} (hg : vo.ownBlock = some g) (hb : But (· = g) w w') {l : List Bool} (hl : l.length = t.opn.length) (ho : w'.ownsRow 0 4 1 vo l.length (l.map .bool)) : RefMem w' q G { t with opn := l } vn vr vo vk vs := by
  have k : ∀ {e : TypeId} {size n : Nat} {v : Value} {X : List Value}, w.ownsRow 0 e size v n X → e ≠ 4 → w'.ownsRow 0 e size v n X := fun {e size n v X} h1 hne =>
    own_same h1 (fun g' hg' => hb.block g' (h1.lt g' hg').2 (fun e => own_ne h1 h.eo hne g' hg' (by rw [e]; exact hg)))
  exact ⟨(hb.block q (h.lt q h.gq) (fun e => h.ne_q h.eo (by decide) hg e.symm)).trans h.blk, k h.en (by decide), k h.ek (by decide), k h.er (by decide), h.lr, fun i hi hi' => k (h.el i hi hi') (by decide), by rw [hl]; exact h.lo, ho, h.gq, h.gn, h.gk, h.gr, h.go, h.gl, fun g' hg' => Nat.lt_of_lt_of_le (h.lt g' hg') hb.size⟩
def rcloseF (t : RSh) (r : Nat) : RSh × Nat := if isB t r then ({ t with opn := t.opn.set (r - 1) false }, 0) else (t, 20)
set_option maxHeartbeats 1000000 in
theorem rclose_any (q : Nat) (G : Nat → Prop) (t : RSh) (r : Nat) (w : World) (h : RefAt w q G t) (hr : r ≤ 1000000) :
    Calls Try.prog 26 #[.pointer (some ⟨q, 0, none⟩), .int .i64 (r : Int)] w fun e w' => e = .returned (.int .i64 ((rcloseF t r).2 : Int)) ∧ RefPost w q G (rcloseF t r).1 w' := by
  have IS := Lib.hid (is_any q G t r w h hr)
  have RE : Hid (rcloseF t r = if isB t r then ({ t with opn := t.opn.set (r - 1) false }, 0) else (t, 20)) := Lib.hid rfl
  generalize rcloseF t r = RR at *
  have H0 := Lib.hid h
  obtain ⟨vn, vr, vo, vk, vs, h⟩ := h
  have H := Lib.hid h
  clear h
  cases hb : isB t r
  · rw [hb] at IS RE
    go_enter Try.func26, Try.ntmps26
    go_wp2_with fail
    refine IS.out.mono ?_
    rintro e w1 ⟨rfl, b1⟩
    have B1 := Lib.hid b1
    clear b1
    go_wp2_with fail
    go_ret
    exact ⟨by rw [RE.out]; rfl, by rw [RE.out]; exact ⟨G, H0.out.below B1.out, fun g hg => .inl hg, But.of_below B1.out⟩⟩
  · obtain ⟨r1, r2⟩ := isB_lt hb
    rw [hb, if_pos rfl] at RE
    rw [hb] at IS
    obtain ⟨g, cap, hvo, -, hgz⟩ := H.out.eo.form (by omega)
    have w1' : IntKind.i64.wrap ((r : Int) - 1) = ((r - 1 : Nat) : Int) := by rw [show (r : Int) - 1 = ((r - 1 : Nat) : Int) by omega]; exact IntWalk.i64_in _ (by omega)
    have d3 : ((r - 1 : Nat) : Int) < (t.opn.length : Int) := by omega
    have d4 : (0 : Int) ≤ ((r - 1 : Nat) : Int) := by omega
    go_enter Try.func26, Try.ntmps26
    go_wp2_with fail
    refine IS.out.mono ?_
    rintro e w1 ⟨rfl, b1⟩
    have H1 := H.out.below b1
    obtain ⟨x0, x1, x2, x3, x4, x5⟩ := H1.cells
    rw [hvo] at x3
    have eo := H1.eo
    rw [hvo] at eo
    have c0 : w1.cell? ⟨g, r - 1, none⟩ = some (.bool t.opn[r - 1]) := by rw [eo.cellAt _ (by omega), List.getElem?_map, List.getElem?_eq_getElem r2]; rfl
    have f0 := eo.frozenAt (r - 1)
    obtain ⟨o1, g1⟩ := eo.stored (r - 1) (.bool false)
    have bt : But (· = g) w1 (w1.setCell ⟨g, r - 1, none⟩ (.bool false)) := But.set (X := (· = g)) (p := ⟨g, r - 1, none⟩) (But.refl _ _) rfl _
    have H2 := Lib.hid (H1.openSet (by rw [hvo]; rfl) bt (l := t.opn.set (r - 1) false) (by simp) (by
      rw [hvo, List.length_set]
      have : (t.opn.map Value.bool).set (r - 1) (.bool false) = (t.opn.set (r - 1) false).map .bool := by rw [List.map_set]
      rw [← this]; exact o1))
    have gG : G g := H1.go g (by rw [hvo]; rfl)
    have BB := Lib.hid ((But.of_below b1 : But G w w1).trans (bt.mono (fun x hx => hx ▸ gG)))
    generalize hk : r - 1 = k at *
    generalize t.opn[k] = ob at *
    clear H1 b1 eo o1 g1 bt IS
    go_wp2_with fail
    go_ret
    exact ⟨by rw [RE.out]; rfl, by rw [RE.out]; exact ⟨G, ⟨vn, vr, vo, vk, vs, H2.out⟩, fun g hg => .inl hg, BB.out⟩⟩
end Go.Proofs.Ytfhgidbmeifflaa
