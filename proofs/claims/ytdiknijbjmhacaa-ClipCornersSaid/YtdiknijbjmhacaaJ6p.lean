/- PLAIN: the corners that are to be found, place by place. -/
import Derived.Test.YtdiknijbjmhacaaJ5
import Derived.Test.YtdiknijbjmhacaaL4
set_option linter.unusedSimpArgs false
set_option linter.unusedVariables false
namespace Go.Proofs.Ytdiknijbjmhacaa
open Go.RowKit

def prevO (l : List Cl.Pt) (i : Nat) : Option Cl.Pt := if i = 0 then none else l[i - 1]?
def nextB (b : Cl.Bx) (l : List Cl.Pt) (i : Nat) (p : Cl.Pt) : Bool := match l[i + 1]? with
  | none => true
  | some q => decide (Cl.pcB p q b = p)
def aloneAt (b : Cl.Bx) (l : List Cl.Pt) (i : Nat) (p : Cl.Pt) : Bool := Cl.al b (prevO l i) p && nextB b l i p
def relS (b : Cl.Bx) (l : List Cl.Pt) (i : Nat) : List Cl.Pt := match l.drop i with
  | [] => []
  | p :: r => Cl.rel b (prevO l i) p r
theorem relS_end {b : Cl.Bx} {l : List Cl.Pt} {i : Nat} (h : l.length ≤ i) : relS b l i = [] := by
  unfold relS; rw [List.drop_of_length_le h]
theorem relS_step {b : Cl.Bx} {l : List Cl.Pt} {i : Nat} (h : i < l.length) : relS b l i = (if Cl.inB l[i] b && !aloneAt b l i l[i] then [l[i]] else []) ++ relS b l (i + 1) := by
  have e : l.drop i = l[i] :: l.drop (i + 1) := List.drop_eq_getElem_cons h
  have ep : prevO l (i + 1) = some l[i] := by
    unfold prevO; rw [if_neg (by omega), show i + 1 - 1 = i by omega, List.getElem?_eq_getElem h]
  unfold relS
  rw [e]
  simp only
  by_cases h2 : i + 1 < l.length
  · have e2 : l.drop (i + 1) = l[i + 1] :: l.drop (i + 1 + 1) := List.drop_eq_getElem_cons h2
    rw [e2]
    simp only [Cl.rel]
    rw [ep]
    unfold aloneAt nextB
    rw [List.getElem?_eq_getElem h2]
  · have e2 : l.drop (i + 1) = [] := List.drop_of_length_le (by omega)
    rw [e2]
    simp only [Cl.rel, List.append_nil]
    unfold aloneAt nextB
    rw [List.getElem?_eq_none (by omega)]
    simp
theorem relS_no {b : Cl.Bx} {l : List Cl.Pt} {i : Nat} (h : i < l.length) (hn : Cl.inB l[i] b = false) : relS b l i = relS b l (i + 1) := by rw [relS_step h, hn]; rfl
theorem relS_alone {b : Cl.Bx} {l : List Cl.Pt} {i : Nat} (h : i < l.length) (hn : aloneAt b l i l[i] = true) : relS b l i = relS b l (i + 1) := by rw [relS_step h, hn]; simp
theorem relS_yes {b : Cl.Bx} {l : List Cl.Pt} {i : Nat} (h : i < l.length) (h1 : Cl.inB l[i] b = true) (h2 : aloneAt b l i l[i] = false) : relS b l i = l[i] :: relS b l (i + 1) := by rw [relS_step h, h1, h2]; rfl
theorem corners_start {b : Cl.Bx} {l : List Cl.Pt} (hb : Cl.boxB b = true) (hl : allNear l = true) : Cl.Wk (clipL l b).flatten (relS b l 0) := by
  have hp : Cl.properB l b = true := by unfold Cl.properB; rw [hb]; exact hl
  unfold clipL; rw [hp]
  cases l with
  | nil => trivial
  | cons p r => exact Cl.corners_line p r b
theorem wk_skip {l : List Cl.Pt} {k : Nat} {x : Cl.Pt} {xs : List Cl.Pt} (hk : k < l.length) (h : Cl.Wk (l.drop k) (x :: xs)) (hn : l[k] ≠ x) : Cl.Wk (l.drop (k + 1)) (x :: xs) := by
  rw [List.drop_eq_getElem_cons hk] at h
  exact h.skip hn
theorem wk_hit {l : List Cl.Pt} {k : Nat} {x : Cl.Pt} {xs : List Cl.Pt} (hk : k < l.length) (h : Cl.Wk (l.drop k) (x :: xs)) (hn : l[k] = x) : Cl.Wk (l.drop k) xs := by
  exact h.hit
theorem wk_end {l : List Cl.Pt} {k : Nat} {x : Cl.Pt} {xs : List Cl.Pt} (hk : l.length ≤ k) (h : Cl.Wk (l.drop k) (x :: xs)) : False := by
  rw [List.drop_of_length_le hk] at h
  exact h.none
theorem flat_take {ps : List (List Cl.Pt)} {k : Nat} (h : k < ps.length) : (ps.take (k + 1)).flatten = (ps.take k).flatten ++ ps[k] := by
  rw [List.take_succ_eq_append_getElem h, List.flatten_append]; simp
theorem flat_len {ps : List (List Cl.Pt)} {m : Nat} (h : ∀ x ∈ ps, x.length ≤ m) : ps.flatten.length ≤ ps.length * m := by
  induction ps with
  | nil => simp
  | cons x r ih =>
    have h1 := h x (by simp)
    have h2 := ih (fun y hy => h y (List.mem_cons_of_mem _ hy))
    rw [List.flatten_cons, List.length_append, List.length_cons, Nat.add_mul, Nat.one_mul]; omega
theorem dec_pt (a p : Cl.Pt) : decide (a = p) = (decide (a.1 = p.1) && decide (a.2 = p.2)) := by
  rw [Bool.eq_iff_iff]; simp [Prod.ext_iff]
theorem al_some {l : List Cl.Pt} {b : Cl.Bx} {i : Nat} (h : i - 1 < l.length) (h0 : i ≠ 0) (p : Cl.Pt) : Cl.al b (prevO l i) p = (decide ((Cl.pcA l[i - 1] p b).1 = p.1) && decide ((Cl.pcA l[i - 1] p b).2 = p.2)) := by
  have e : prevO l i = some l[i - 1] := by unfold prevO; rw [if_neg h0, List.getElem?_eq_getElem h]
  rw [e]; exact dec_pt _ _
theorem nextB_some {l : List Cl.Pt} {b : Cl.Bx} {i : Nat} (h : i + 1 < l.length) (p : Cl.Pt) : nextB b l i p = (decide ((Cl.pcB p l[i + 1] b).1 = p.1) && decide ((Cl.pcB p l[i + 1] b).2 = p.2)) := by
  unfold nextB; rw [List.getElem?_eq_getElem h]; exact dec_pt _ _
theorem nextB_none {l : List Cl.Pt} {b : Cl.Bx} {i : Nat} (h : l.length ≤ i + 1) (p : Cl.Pt) : nextB b l i p = true := by
  unfold nextB; rw [List.getElem?_eq_none h]
theorem piece_to (px py x y x0 y0 x1 y1 : Int) (hp : Cl.nearB px py = true) (hq : Cl.nearB x y = true) (hb : Cl.boxB ⟨x0, y0, x1, y1⟩ = true) (hi : Cl.inB (x, y) ⟨x0, y0, x1, y1⟩ = true) : ∃ ax ay bx by' : Int, Cl.pcA (px, py) (x, y) ⟨x0, y0, x1, y1⟩ = (ax, ay) ∧ ∀ u : World,
    Calls Try.prog 23 #[.agg #[.int .i64 px, .int .i64 py], .agg #[.int .i64 x, .int .i64 y], .agg #[.int .i64 x0, .int .i64 y0, .int .i64 x1, .int .i64 y1]] u
      fun e w' => e = .returned (.tuple #[.agg #[.int .i64 ax, .int .i64 ay], .agg #[.int .i64 bx, .int .i64 by'], .bool true]) ∧ Below u.heap.size u w' := by
  have ok := (Cl.piece_q (p := (px, py)) hi).1
  refine ⟨(Cl.pcA (px, py) (x, y) ⟨x0, y0, x1, y1⟩).1, (Cl.pcA (px, py) (x, y) ⟨x0, y0, x1, y1⟩).2, (refB (px, py) (x, y) ⟨x0, y0, x1, y1⟩).1, (refB (px, py) (x, y) ⟨x0, y0, x1, y1⟩).2, rfl, fun u => ?_⟩
  have := rpiece_any px py x y x0 y0 x1 y1 u hp hq hb
  rw [ok, (ref_yes ok).1] at this
  exact this
theorem piece_from (px py x y x0 y0 x1 y1 : Int) (hp : Cl.nearB px py = true) (hq : Cl.nearB x y = true) (hb : Cl.boxB ⟨x0, y0, x1, y1⟩ = true) (hi : Cl.inB (x, y) ⟨x0, y0, x1, y1⟩ = true) : ∃ ax ay bx by' : Int, Cl.pcB (x, y) (px, py) ⟨x0, y0, x1, y1⟩ = (bx, by') ∧ ∀ u : World,
    Calls Try.prog 23 #[.agg #[.int .i64 x, .int .i64 y], .agg #[.int .i64 px, .int .i64 py], .agg #[.int .i64 x0, .int .i64 y0, .int .i64 x1, .int .i64 y1]] u
      fun e w' => e = .returned (.tuple #[.agg #[.int .i64 ax, .int .i64 ay], .agg #[.int .i64 bx, .int .i64 by'], .bool true]) ∧ Below u.heap.size u w' := by
  have ok := (Cl.piece_p (q := (px, py)) hi).1
  refine ⟨(refA (x, y) (px, py) ⟨x0, y0, x1, y1⟩).1, (refA (x, y) (px, py) ⟨x0, y0, x1, y1⟩).2, (Cl.pcB (x, y) (px, py) ⟨x0, y0, x1, y1⟩).1, (Cl.pcB (x, y) (px, py) ⟨x0, y0, x1, y1⟩).2, rfl, fun u => ?_⟩
  have := rpiece_any x y px py x0 y0 x1 y1 u hq hp hb
  rw [ok, (ref_yes ok).2] at this
  exact this
end Go.Proofs.Ytdiknijbjmhacaa
