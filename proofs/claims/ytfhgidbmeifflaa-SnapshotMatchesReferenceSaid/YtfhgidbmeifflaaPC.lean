/- REFERENCE: New, Read. -/
import Derived.Test.YtfhgidbmeifflaaPB
set_option linter.unusedSimpArgs false
set_option linter.unusedVariables false
namespace Go.Proofs.Ytfhgidbmeifflaa
open Go.RowKit Go.Maps Go.ChangeMaps Go.MapKept Go.WideShapes Go.WideMaps

def newR : RSh := ⟨0, [], [], [], [], 0⟩
def RNewPost (w : World) (e : Ending) (w' : World) : Prop :=
  ∃ (q : Nat) (G : Nat → Prop), e = .returned (.pointer (some ⟨q, 0, none⟩)) ∧ RefAt w' q G newR ∧ (∀ g, G g → w.heap.size ≤ g) ∧ Below w.heap.size w w'
theorem rnew_any (w : World) : Calls Try.prog 12 #[] w (RNewPost w) := by
  go_enter Try.func12, Try.ntmps12
  go_wp2_with fail
  go_ret
  refine ⟨w.heap.size, fun g => g = w.heap.size, rfl, ⟨.slice none 0 0, .slice none 0 0, .slice none 0 0, .slice none 0 0, [], ?_⟩, fun g hg => by rw [hg]; exact Nat.le_refl _, (Below.refl _ _).alloc (Nat.le_refl _) _⟩
  exact ⟨heap_alloc_new w _, World.ownsRow_nil _ _ _ _, World.ownsRow_nil _ _ _ _, World.ownsRow_nil _ _ _ _, rfl, fun i h => absurd h (Nat.not_lt_zero _), rfl, World.ownsRow_nil _ _ _ _, rfl, fun g h => (by cases h), fun g h => (by cases h), fun g h => (by cases h), fun g h => (by cases h), fun i h => absurd h (Nat.not_lt_zero _), fun g hg => by rw [hg]; simp⟩
def rdE (o : Option Ent) : Tx × Nat := match o with
  | none => ([], 11)
  | some e => if e.num = 0 then ([], 24) else (e.val, 0)
def rReadF (t : RSh) (r : Nat) (key : Tx) : Tx × Nat := if isB t r then rdE ((t.readers.getD (r - 1) [])[findI (t.readers.getD (r - 1) []) key]?) else ([], 20)
theorem isB_lt {t : RSh} {r : Nat} (h : isB t r = true) : 1 ≤ r ∧ r - 1 < t.opn.length := by
  cases r with
  | zero => cases h
  | succ k =>
    refine ⟨by omega, ?_⟩
    show k < t.opn.length
    by_cases hk : k < t.opn.length
    · exact hk
    · have h : t.opn.getD k false = true := h
      rw [List.getD_eq_getElem?_getD, List.getElem?_eq_none (by omega)] at h; cases h
set_option maxHeartbeats 2000000 in
set_option maxRecDepth 100000 in
theorem rread_any (q : Nat) (G : Nat → Prop) (t : RSh) (r : Nat) (key : Tx) (w : World) (h : RefAt w q G t) (hr : r ≤ 1000000) (hs : ∀ l ∈ t.readers, l.length ≤ 1000000) :
    Calls Try.prog 18 #[.pointer (some ⟨q, 0, none⟩), .int .i64 (r : Int), .string (mkB key)] w fun e w' => e = .returned (.tuple #[.string (mkB (rReadF t r key).1), .int .i64 ((rReadF t r key).2 : Int)]) ∧ Below w.heap.size w w' := by
  have IS := Lib.hid (is_any q G t r w h hr)
  obtain ⟨vn, vr, vo, vk, vs, h⟩ := h
  have H := Lib.hid h
  have RE : Hid (rReadF t r key = if isB t r then rdE ((t.readers.getD (r - 1) [])[findI (t.readers.getD (r - 1) []) key]?) else ([], 20)) := Lib.hid rfl
  generalize rReadF t r key = RR at *
  clear h
  cases hb : isB t r
  · rw [hb] at IS RE
    go_enter Try.func18, Try.ntmps18
    go_wp2_with fail
    refine IS.out.mono ?_
    rintro e w1 ⟨rfl, b1⟩
    have B1 := Lib.hid b1
    clear b1
    go_wp2_with fail
    go_ret2
    exact ⟨by rw [RE.out]; rfl, B1.out⟩
  · obtain ⟨r1, r2⟩ := isB_lt hb
    rw [hb, if_pos rfl] at RE
    rw [hb] at IS
    have r3 : r - 1 < t.readers.length := by rw [← H.out.lo]; exact r2
    have r4 : r - 1 < vs.length := by rw [H.out.lr]; exact r3
    have LE := hs _ (List.getElem_mem r3)
    have eD : t.readers.getD (r - 1) [] = t.readers[r - 1] := by rw [List.getD_eq_getElem?_getD, List.getElem?_eq_getElem r3]; rfl
    rw [eD] at RE
    have EL := Lib.hid (H.out.el (r - 1) r4 r3)
    obtain ⟨A, c, hv, hRl⟩ := own_sl EL.out
    obtain ⟨Ar, cr, hvr, hRr⟩ := own_sl H.out.er
    have hm : Rd w Ar vs := hRr
    have RL := Lib.hid hRl
    have RV := Lib.hid hRr
    generalize hl : t.readers[r - 1] = l at *
    have w1' : IntKind.i64.wrap ((r : Int) - 1) = ((r - 1 : Nat) : Int) := by rw [show (r : Int) - 1 = ((r - 1 : Nat) : Int) by omega]; exact IntWalk.i64_in _ (by omega)
    have d3 : ((r - 1 : Nat) : Int) < (vs.length : Int) := by omega
    have d4 : (0 : Int) ≤ ((r - 1 : Nat) : Int) := by omega
    clear hRl hRr hm eD hl hs EL r1 r2 r3
    go_enter Try.func18, Try.ntmps18
    go_wp2_with fail
    refine IS.out.mono ?_
    rintro e w1 ⟨rfl, b1⟩
    have H1 := H.out.below b1
    obtain ⟨x0, x1, x2, x3, x4, x5⟩ := H1.cells
    rw [hvr] at x2
    obtain ⟨b, off, rfl, hbz, hcc⟩ := (RV.out.below b1) (by omega)
    have y0 : w1.cell? ⟨b, off + (r - 1), none⟩ = some (.slice A l.length c) := by
      rw [← hv]; exact hcc (r - 1) _ (List.getElem?_eq_getElem r4)
    have FD := Lib.hid (find_any A l.length c l key w1 rfl LE (RL.out.below b1))
    have B1 := Lib.hid b1
    generalize hk : r - 1 = k at *
    clear H1 b1 hcc hv hvr IS hbz
    go_wp2_with fail
    refine FD.out.mono ?_
    rintro e w2 ⟨rfl, b2⟩
    have B2 := Lib.hid (B1.out.trans (b2.mono B1.out.size))
    by_cases hf : findI l key < l.length
    · have FR : findR l key = (findI l key : Int) := by unfold findR; rw [if_pos hf]
      rw [FR]
      rw [List.getElem?_eq_getElem hf] at RE
      obtain ⟨b', off', rfl, hb', c0, c1, c2⟩ := ents_at (RL.out.below B2.out) hf
      have d5 : ((findI l key : Nat) : Int) < (l.length : Int) := by omega
      have d6 : (0 : Int) ≤ ((findI l key : Nat) : Int) := by omega
      have d7 : ¬ ((findI l key : Nat) : Int) < 0 := by omega
      have RE2 : Hid (RR = if l[findI l key].num = 0 then ([], 24) else (l[findI l key].val, 0)) := Lib.hid RE.out
      clear RE FR FD b2 c0
      generalize l[findI l key].num = en at *
      generalize l[findI l key].val = ev at *
      generalize findI l key = ki at *
      by_cases e0 : en = 0
      · have E2 := RE2.out
        rw [if_pos e0] at E2
        have E3 := Lib.hid E2
        subst e0
        clear RE2 E2
        go_wp2_with fail
        go_ret2
        exact ⟨by rw [E3.out]; rfl, B2.out⟩
      · have E2 := RE2.out
        rw [if_neg e0] at E2
        have E3 := Lib.hid E2
        have e1 : ((en : Int) == 0) = false := by simp; exact e0
        clear RE2 E2
        go_wp2_with fail
        go_ret2
        exact ⟨by rw [E3.out]; rfl, B2.out⟩
    · have FR : findR l key = -1 := by unfold findR; rw [if_neg hf]
      rw [FR]
      rw [List.getElem?_eq_none (by omega)] at RE
      have RE2 : Hid (RR = ([], 11)) := Lib.hid RE.out
      clear RE FR FD b2
      go_wp2_with fail
      go_ret2
      exact ⟨by rw [RE2.out]; rfl, B2.out⟩
end Go.Proofs.Ytfhgidbmeifflaa
