/- WALKS: clip.Ring: words for a round. -/
import Derived.Test.YtdiknijbjmhacaaF4
set_option linter.unusedSimpArgs false
set_option linter.unusedVariables false
namespace Go.Proofs.Ytdiknijbjmhacaa
open Go.RowKit

theorem keeps_cut (b : Cl.Bx) (j : Nat) (hj : j < 4) (x y : Int) (u : World) (hp : Cl.nearB x y = true) :
    Calls Try.prog 36 #[.agg #[.func (.func (cutFn j)) #[] #[], .int .i64 (cutLim b j)], .agg #[.int .i64 x, .int .i64 y]] u fun e w' => e = .returned (.bool (Cl.kept b j (x, y))) ∧ Below u.heap.size u w' := by
  rw [← cut_kept b j hj (x, y)]
  exact keeps_any (cutFn j) (cutCo j) (cutLim b j) x y u (cut_co j) (cut_goes j) hp
theorem across_cut (b : Cl.Bx) (j : Nat) (hj : j < 4) (hb : Cl.boxB b = true) (px py qx qy : Int) (u : World) (hp : Cl.nearB px py = true) (hq : Cl.nearB qx qy = true) (h : Cl.kept b j (px, py) ≠ Cl.kept b j (qx, qy)) :
    Calls Try.prog 37 #[.agg #[.func (.func (cutFn j)) #[] #[], .int .i64 (cutLim b j)], .agg #[.int .i64 px, .int .i64 py], .agg #[.int .i64 qx, .int .i64 qy]] u
      fun e w' => e = .returned (.agg #[.int .i64 (Cl.acr b j (px, py) (qx, qy)).1, .int .i64 (Cl.acr b j (px, py) (qx, qy)).2]) ∧ Below u.heap.size u w' := by
  rw [← cut_acr b j hj (px, py) (qx, qy) h]
  exact across_any (cutFn j) (cutCo j) (cutLim b j) px py qx qy u (cut_co j) (cut_goes j) hp hq (cut_lim hb j) (cut_ne b j hj _ _ h)

/-- the three variables of a round: the cut, the point, the point before -/
structure IW (w : World) (p7 p10 p11 : Nat) (f : Value) (lim qx qy px py : Int) : Prop where
  c : w.heap[p7]? = some (.cells #[f, .int .i64 lim] 46 (0, 0))
  q : w.heap[p10]? = some (.cells #[.int .i64 qx, .int .i64 qy] 24 (0, 0))
  p : w.heap[p11]? = some (.cells #[.int .i64 px, .int .i64 py] 24 (0, 0))
theorem IW.below {w w' : World} {p7 p10 p11 : Nat} {f : Value} {lim qx qy px py : Int} (h : IW w p7 p10 p11 f lim qx qy px py) (hb : Below w.heap.size w w') : IW w' p7 p10 p11 f lim qx qy px py :=
  ⟨(hb.block _ (lt_of_block h.c)).trans h.c, (hb.block _ (lt_of_block h.q)).trans h.q, (hb.block _ (lt_of_block h.p)).trans h.p⟩
theorem IW.cells {w : World} {p7 p10 p11 : Nat} {f : Value} {lim qx qy px py : Int} (h : IW w p7 p10 p11 f lim qx qy px py) :
    w.cell? ⟨p7, 0, none⟩ = some f ∧ w.cell? ⟨p7, 1, none⟩ = some (.int .i64 lim) ∧ w.cell? ⟨p10, 0, none⟩ = some (.int .i64 qx) ∧ w.cell? ⟨p10, 1, none⟩ = some (.int .i64 qy) ∧ w.cell? ⟨p11, 0, none⟩ = some (.int .i64 px) ∧ w.cell? ⟨p11, 1, none⟩ = some (.int .i64 py) :=
  ⟨(cell_two h.c).1, (cell_two h.c).2, (cell_two h.q).1, (cell_two h.q).2, (cell_two h.p).1, (cell_two h.p).2⟩
/-- behind an append -/
theorem IW.grown {w w' : World} {p7 p10 p11 base lo : Nat} {f : Value} {lim qx qy px py : Int} {o : Obj} {row : Option Nat} (h : IW w p7 p10 p11 f lim qx qy px py) (hg : (w.alloc o).grownBy w' row) (hr : ∀ r, row = some r → base ≤ r ∧ r < lo) (h1 : p7 < base) (h2 : lo ≤ p10) (h3 : lo ≤ p11) : IW w' p7 p10 p11 f lim qx qy px py := by
  have key : ∀ k, k < w.heap.size → (∀ r, row = some r → r ≠ k) → w'.heap[k]? = w.heap[k]? := fun k hk hn => (hg.block k (by simp; omega) (fun e => hn k e.symm rfl)).trans (alloc_old _ _ hk)
  exact ⟨(key _ (lt_of_block h.c) (fun r hr' => by have := hr r hr'; omega)).trans h.c, (key _ (lt_of_block h.q) (fun r hr' => by have := hr r hr'; omega)).trans h.q, (key _ (lt_of_block h.p) (fun r hr' => by have := hr r hr'; omega)).trans h.p⟩

theorem rp_own {w : World} {base : Nat} {A : Option Addr} {n c : Nat} {l : List Cl.Pt} (h : w.ownsRow base 24 2 (.slice A n c) n (l.flatMap ptCells)) : Rp w A l := by
  rcases h.2 with ⟨hv, hx⟩ | ⟨g', cap, cur, hv, _, hg, _, _, _, ht⟩
  · intro h0; rw [h.1, hx] at h0; simp at h0
  · injection hv with hA _ _
    rw [hA]
    exact Rd.of_row hg (by rw [← ht]; exact List.take_prefix _ _)
/-- what has been gathered -/
structure NX (wx wi : World) (v : Value) (l : List Cl.Pt) : Prop where
  own : wi.ownsRow wx.heap.size 24 2 v l.length (l.flatMap ptCells)
  bel : Below wx.heap.size wx wi
theorem NX.below {wx wi w' : World} {v : Value} {l : List Cl.Pt} (h : NX wx wi v l) (hb : Below wi.heap.size wi w') : NX wx w' v l :=
  ⟨own_keep h.own fun k cs _ hc => hb.block k (lt_of_block hc), h.bel.trans (hb.mono h.bel.size)⟩
theorem NX.rows {wx wi : World} {v : Value} {l : List Cl.Pt} (h : NX wx wi v l) : ∀ r, v.ownBlock = some r → wx.heap.size ≤ r ∧ r < wi.heap.size := fun r hr => h.own.lt r hr
theorem NX.more {wx wi w' : World} {v v' : Value} {l : List Cl.Pt} {x : Cl.Pt} (h : NX wx wi v l) (ho : w'.ownsRow wx.heap.size 24 2 v' (l.length + 1) (l.flatMap ptCells ++ [.int .i64 x.1, .int .i64 x.2])) (hb : Below wx.heap.size wi w') : NX wx w' v' (l ++ [x]) := by
  refine ⟨?_, h.bel.trans hb⟩
  rw [List.length_append, List.flatMap_append]
  simpa [ptCells] using ho
theorem stepP_ff {b : Cl.Bx} {j : Nat} {p q : Cl.Pt} (hp : Cl.kept b j p = false) (hq : Cl.kept b j q = false) : Cl.stepP b j p q = [] := by simp [Cl.stepP, hp, hq]
theorem stepP_tt {b : Cl.Bx} {j : Nat} {p q : Cl.Pt} (hp : Cl.kept b j p = true) (hq : Cl.kept b j q = true) : Cl.stepP b j p q = [q] := by simp [Cl.stepP, hp, hq]
theorem stepP_tf {b : Cl.Bx} {j : Nat} {p q : Cl.Pt} (hp : Cl.kept b j p = true) (hq : Cl.kept b j q = false) : Cl.stepP b j p q = [Cl.acr b j p q] := by simp [Cl.stepP, hp, hq]
theorem stepP_ft {b : Cl.Bx} {j : Nat} {p q : Cl.Pt} (hp : Cl.kept b j p = false) (hq : Cl.kept b j q = true) : Cl.stepP b j p q = [Cl.acr b j p q, q] := by simp [Cl.stepP, hp, hq]
/-- where the point before lies -/
def prevI (n k : Nat) : Nat := if k = 0 then n - 1 else k - 1
theorem prevI_lt {n k : Nat} (h : k < n) : prevI n k < n := by unfold prevI; split <;> omega
theorem prevI_mod {n k : Nat} (h : k < n) : ((k : Int) + (n : Int) - 1) % (n : Int) = (prevI n k : Int) := by
  unfold prevI
  split
  · rename_i h0; subst h0
    rw [Int.emod_eq_of_lt (by omega) (by omega)]; omega
  · rw [show (k : Int) + (n : Int) - 1 = ((k : Int) - 1) + (n : Int) * 1 by omega, Int.add_mul_emod_self_left, Int.emod_eq_of_lt (by omega) (by omega)]; omega
theorem prevI_at {l : List Cl.Pt} {k : Nat} (h : k < l.length) : l[prevI l.length k]'(prevI_lt h) = prevP l k := by
  unfold prevP
  by_cases h0 : k = 0
  · subst h0
    rw [if_pos rfl]
    have : prevI l.length 0 = l.length - 1 := by simp [prevI]
    simp only [this]
    rw [List.getLast?_eq_getElem?, List.getElem?_eq_getElem (by omega)]; rfl
  · rw [if_neg h0]
    have : prevI l.length k = k - 1 := by simp [prevI, h0]
    simp only [this]
    simp [List.getD, List.getElem?_eq_getElem (show k - 1 < l.length by omega)]
/-- a slice that reads as l comes back; below the first world nothing has turned -/
def RingC (w w2 : World) (l : List Cl.Pt) (e : Ending) (w' : World) : Prop := ∃ A c, e = .returned (.slice A l.length c) ∧ Rp w' A l ∧ l.length ≤ c ∧ c ≤ maxLen ∧ Below w.heap.size w w'
theorem compact_own {w w0 w2 : World} {v2 : Value} {R : List Cl.Pt} (own2 : w2.ownsRow w0.heap.size 24 2 v2 R.length (R.flatMap ptCells)) (hl : R.length ≤ 1000000) (hb : Below w.heap.size w w2) (hw : w.heap.size ≤ w0.heap.size) :
    Calls Try.prog 28 #[v2] w2 (RingC w w2 (Cl.cmpF R)) := by
  obtain ⟨A, c, rfl, hc1, hc2⟩ := own_form own2
  by_cases h2 : R.length < 2
  · refine (compact_short A R.length c w2 h2).mono ?_
    rintro e w3 ⟨rfl, rfl⟩
    rw [Cl.cmp_short h2]
    exact ⟨A, c, rfl, rp_own own2, hc1, hc2, hb⟩
  · obtain ⟨g, rfl, hg⟩ : ∃ g, A = some ⟨g, 0, none⟩ ∧ w0.heap.size ≤ g := by
      rcases own2.2 with ⟨hv, _⟩ | ⟨g, cap, cur, hv, hb, _⟩
      · injection hv with _ h2 _; omega
      · injection hv with h2 _ _; exact ⟨g, h2, hb⟩
    refine (compact_long g 0 c R w2 (by omega) hc1 hc2 (PtRow.of_own own2)).mono ?_
    rintro e w3 ⟨rfl, p, bt⟩
    exact ⟨_, c, rfl, p.rp, Nat.le_trans (Cl.cmp_len1 R) hc1, hc2, hb.trans (bt.below hb.size (fun k hk => by omega))⟩
theorem strip_more : ∀ {n : Nat} {l : List Cl.Pt}, l.length ≤ n → Cl.strip n l = Cl.strip l.length l
  | 0, l, h => by rw [show l.length = 0 by omega]
  | n + 1, l, h => by
    by_cases hc : 1 < l.length ∧ l.head? = l.getLast?
    · obtain ⟨m, hm⟩ : ∃ m, l.length = m + 1 := ⟨l.length - 1, by omega⟩
      rw [strip_go hc, hm, strip_go hc]
      have hd : l.dropLast.length = m := by rw [List.length_dropLast]; omega
      rw [strip_more (n := n) (by omega), hd]
    · rw [strip_stop hc, strip_stop hc]
def lenOf : Value → Nat
  | .slice _ n _ => n
  | _ => 0
theorem Rp.pre2 {w : World} {A : Option Addr} {l : List Cl.Pt} (h : Rp w A l) (k : Nat) : Rp w A (l.take k) := by
  have hp := Rd.pre h (k * 2)
  have : ∀ (l : List Cl.Pt) (k : Nat), (l.flatMap ptCells).take (k * 2) = (l.take k).flatMap ptCells := by
    intro l
    induction l with
    | nil => intro k; simp
    | cons p l ih =>
      intro k
      cases k with
      | zero => simp
      | succ k =>
        rw [List.take_succ_cons, List.flatMap_cons, List.flatMap_cons, ← ih k, show (k + 1) * 2 = (ptCells p).length + k * 2 by simp [ptCells]; omega, List.take_length_add_append]
  rw [this] at hp
  exact hp
end Go.Proofs.Ytdiknijbjmhacaa
