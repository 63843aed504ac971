/- PLAIN LAWS for clip.Ring's loops. -/
import Derived.Test.YtdiknijbjmhacaaF2
import Derived.Test.YtdiknijbjmhacaaF3
import Derived.Test.YtdiknijbjmhacaaK8
set_option linter.unusedSimpArgs false
set_option linter.unusedVariables false
namespace Go.Proofs.Ytdiknijbjmhacaa
open Go.RowKit

/-- the four cuts -/
def cutCo (j : Nat) : Int → Int → Int := match j with
  | 0 => fun x _ => -x
  | 1 => fun x _ => x
  | 2 => fun _ y => -y
  | _ => fun _ y => y
def cutLim (b : Cl.Bx) (j : Nat) : Int := match j with
  | 0 => -b.x0
  | 1 => b.x1
  | 2 => -b.y0
  | _ => b.y1
def cutFn (j : Nat) : FuncId := match j with
  | 0 => 32
  | 1 => 33
  | 2 => 34
  | _ => 35
theorem cut_co : ∀ j, CoFn (cutFn j) (cutCo j)
  | 0 => co1
  | 1 => co2
  | 2 => co3
  | _ + 3 => co4
theorem cut_goes : ∀ j, Goes (cutFn j)
  | 0 => goes1
  | 1 => goes2
  | 2 => goes3
  | _ + 3 => goes4
theorem cut_lim {b : Cl.Bx} (h : Cl.boxB b = true) : ∀ j, -2097152 ≤ cutLim b j ∧ cutLim b j ≤ 2097152 := by
  have := Cl.box_iff.1 h
  intro j
  unfold cutLim
  split <;> omega
theorem cut_kept (b : Cl.Bx) (j : Nat) (hj : j < 4) (p : Cl.Pt) : decide (cutCo j p.1 p.2 ≤ cutLim b j) = Cl.kept b j p := by
  rcases j with _ | _ | _ | _ | j
  · simp only [cutCo, cutLim, Cl.kept, decide_eq_decide]; omega
  · rfl
  · simp only [cutCo, cutLim, Cl.kept, decide_eq_decide]; omega
  · rfl
  · omega
theorem cut_ne (b : Cl.Bx) (j : Nat) (hj : j < 4) (p q : Cl.Pt) (h : Cl.kept b j p ≠ Cl.kept b j q) : cutCo j p.1 p.2 ≠ cutCo j q.1 q.2 := by
  rw [← cut_kept b j hj p, ← cut_kept b j hj q] at h
  intro e; rw [e] at h; exact h rfl
theorem cut_acr (b : Cl.Bx) (j : Nat) (hj : j < 4) (p q : Cl.Pt) (h : Cl.kept b j p ≠ Cl.kept b j q) : acrG (cutCo j) (cutLim b j) p.1 p.2 q.1 q.2 = Cl.acr b j p q := by
  have hn := cut_ne b j hj p q h
  have e1 : ∀ a c : Int, c ≠ 0 → p.1 + Cl.rround (Cl.rof a c) c = p.1 + a := fun a c hc => by rw [Cl.rof_round hc]
  rcases j with _ | _ | _ | _ | j
  · simp only [cutCo] at hn
    unfold acrG
    simp only [cutCo, cutLim, Cl.acr, Cl.acrX]
    have e : Cl.rof (-b.x0 - -p.1) (-q.1 - -p.1) = Cl.rof (b.x0 - p.1) (q.1 - p.1) := by
      rw [show -b.x0 - -p.1 = -(b.x0 - p.1) by omega, show -q.1 - -p.1 = -(q.1 - p.1) by omega]
      exact Cl.rof_neg (by omega)
    rw [e, Cl.rof_round (by omega)]
    exact Prod.ext (by simp only; omega) rfl
  · simp only [cutCo] at hn
    unfold acrG
    simp only [cutCo, cutLim, Cl.acr, Cl.acrX]
    rw [Cl.rof_round (by omega)]
    exact Prod.ext (by simp only; omega) rfl
  · simp only [cutCo] at hn
    unfold acrG
    simp only [cutCo, cutLim, Cl.acr, Cl.acrY]
    have e : Cl.rof (-b.y0 - -p.2) (-q.2 - -p.2) = Cl.rof (b.y0 - p.2) (q.2 - p.2) := by
      rw [show -b.y0 - -p.2 = -(b.y0 - p.2) by omega, show -q.2 - -p.2 = -(q.2 - p.2) by omega]
      exact Cl.rof_neg (by omega)
    rw [e, Cl.rof_round (by omega)]
    exact Prod.ext rfl (by simp only; omega)
  · simp only [cutCo] at hn
    unfold acrG
    simp only [cutCo, cutLim, Cl.acr, Cl.acrY]
    rw [Cl.rof_round (by omega)]
    exact Prod.ext rfl (by simp only; omega)
  · omega
theorem near_btw (b : Cl.Bx) (k : Nat) : Cl.Btw (fun p => Cl.nearB p.1 p.2 = true) b k := by
  intro p q hp hq hk
  have := Cl.acr_btw hk
  rw [Cl.near_iff] at hp hq ⊢
  omega
def Near (l : List Cl.Pt) : Prop := ∀ p ∈ l, Cl.nearB p.1 p.2 = true
theorem near_step {b : Cl.Bx} {k : Nat} {l : List Cl.Pt} (h : Near l) : Near (Cl.ringStep b k l) := Cl.ringStep_all (near_btw b k) h
theorem acr_near {b : Cl.Bx} {k : Nat} {p q : Cl.Pt} (hp : Cl.nearB p.1 p.2 = true) (hq : Cl.nearB q.1 q.2 = true) (h : Cl.kept b k p ≠ Cl.kept b k q) : Cl.nearB (Cl.acr b k p q).1 (Cl.acr b k p q).2 = true := near_btw b k p q hp hq h
/-- the point before: the last one before the first -/
def prevP (l : List Cl.Pt) (i : Nat) : Cl.Pt := if i = 0 then l.getLast?.getD (0, 0) else l.getD (i - 1) (0, 0)
/-- the ring after i points of a step -/
def ringI (b : Cl.Bx) (k : Nat) (l : List Cl.Pt) (i : Nat) : List Cl.Pt := Cl.ringGo b k (prevP l 0) (l.take i)
theorem ringGo_snoc (b : Cl.Bx) (k : Nat) : ∀ (l : List Cl.Pt) (p q : Cl.Pt), Cl.ringGo b k p (l ++ [q]) = Cl.ringGo b k p l ++ Cl.stepP b k ((p :: l).getLast (by simp)) q
  | [], p, q => by simp [Cl.ringGo]
  | x :: l, p, q => by
    rw [List.cons_append]
    simp only [Cl.ringGo]
    rw [ringGo_snoc b k l x q, List.append_assoc, show (p :: x :: l).getLast (by simp) = (x :: l).getLast (by simp) from List.getLast_cons (by simp)]
theorem ringI_zero (b : Cl.Bx) (k : Nat) (l : List Cl.Pt) : ringI b k l 0 = [] := rfl
theorem ringI_step (b : Cl.Bx) (k : Nat) {l : List Cl.Pt} {i : Nat} (h : i < l.length) : ringI b k l (i + 1) = ringI b k l i ++ Cl.stepP b k (prevP l i) l[i] := by
  unfold ringI
  rw [List.take_succ_eq_append_getElem h, ringGo_snoc]
  congr 2
  rcases i with _ | i
  · simp
  · rw [List.take_succ_eq_append_getElem (by omega)]
    simp only [prevP]
    rw [List.getLast_cons (List.append_ne_nil_of_right_ne_nil (l.take i) (List.cons_ne_nil (l[i]'(by omega)) [])), List.getLast_append]
    simp [List.getD, List.getElem?_eq_getElem (show i < l.length by omega)]
theorem ringI_all (b : Cl.Bx) (k : Nat) (l : List Cl.Pt) {i : Nat} (h : l.length ≤ i) : ringI b k l i = Cl.ringStep b k l := by
  unfold ringI Cl.ringStep
  rw [List.take_of_length_le h]
  cases e : l.getLast? with
  | none => rw [List.getLast?_eq_none_iff] at e; subst e; rfl
  | some z => simp [prevP, e]
theorem stepP_len (b : Cl.Bx) (k : Nat) (p q : Cl.Pt) : (Cl.stepP b k p q).length ≤ 2 := by
  unfold Cl.stepP; rw [List.length_append]; split <;> split <;> simp
theorem ringI_len (b : Cl.Bx) (k : Nat) (l : List Cl.Pt) : ∀ i, i ≤ l.length → (ringI b k l i).length ≤ 2 * i
  | 0, _ => by simp [ringI_zero]
  | i + 1, h => by
    rw [ringI_step b k (by omega), List.length_append]
    have := ringI_len b k l i (by omega); have := stepP_len b k (prevP l i) (l[i]'(by omega)); omega
theorem ringStep_len (b : Cl.Bx) (k : Nat) (l : List Cl.Pt) : (Cl.ringStep b k l).length ≤ 2 * l.length := by
  rw [← ringI_all b k l (Nat.le_refl _)]; exact ringI_len b k l _ (Nat.le_refl _)
/-- the steps from 0 on -/
def stepsF (b : Cl.Bx) (l : List Cl.Pt) : Nat → List Cl.Pt
  | 0 => l
  | j + 1 => Cl.ringStep b j (stepsF b l j)
theorem steps_near {b : Cl.Bx} {l : List Cl.Pt} (h : Near l) : ∀ j, Near (stepsF b l j)
  | 0 => h
  | j + 1 => near_step (steps_near h j)
theorem steps_len (b : Cl.Bx) (l : List Cl.Pt) : ∀ j, (stepsF b l j).length ≤ 2 ^ j * l.length
  | 0 => by simp [stepsF]
  | j + 1 => by
    have h1 := ringStep_len b j (stepsF b l j); have h2 := steps_len b l j
    show (Cl.ringStep b j (stepsF b l j)).length ≤ _
    rw [Nat.pow_succ, Nat.mul_comm (2 ^ j) 2, Nat.mul_assoc]; omega
/-- the head of a strip -/
theorem strip_stop {n : Nat} {l : List Cl.Pt} (h : ¬ (1 < l.length ∧ l.head? = l.getLast?)) : Cl.strip n l = l := by
  cases n with
  | zero => rfl
  | succ n => simp only [Cl.strip]; rw [if_neg h]
theorem strip_go {n : Nat} {l : List Cl.Pt} (h : 1 < l.length ∧ l.head? = l.getLast?) : Cl.strip (n + 1) l = Cl.strip n l.dropLast := by
  simp only [Cl.strip]; rw [if_pos h]
def clipR (l : List Cl.Pt) (b : Cl.Bx) : List Cl.Pt := if Cl.properB l b then Cl.ringF l b else []
theorem ringF_steps (l : List Cl.Pt) (b : Cl.Bx) : Cl.ringF l b = Cl.aroundF (stepsF b l 4) := rfl
def RingPost (w : World) (l : List Cl.Pt) (e : Ending) (w' : World) : Prop := ∃ A c, e = .returned (.slice A l.length c) ∧ Rp w' A l ∧ l.length ≤ c ∧ c ≤ maxLen ∧ Below w.heap.size w w'
end Go.Proofs.Ytdiknijbjmhacaa
