/- PLAIN LAWS OF SEALS: chains, digits, trees, paths. No program is spoken of here. -/
import Derived.Test.YthceonkdmcidcaaDoorDP
set_option linter.unusedSimpArgs false
set_option linter.unusedVariables false
namespace Go.Proofs.YthceonkdmcidcaaDoor.Sl
open Go.Proofs.YthceonkdmcidcaaDoor.Dg
abbrev T := List UInt8
/-! ### chains -/
def chainF : Nat → T → T
  | 0, t => t
  | n + 1, t => chainF n (sumL t)
theorem chainF_succ (n : Nat) (t : T) : chainF (n + 1) t = sumL (chainF n t) := by
  induction n generalizing t with
  | zero => rfl
  | succ n ih => rw [chainF, ih]; rfl
theorem chainF_add (n m : Nat) (t : T) : chainF (n + m) t = chainF n (chainF m t) := by
  induction m generalizing t with
  | zero => rfl
  | succ m ih => rw [← Nat.add_assoc, chainF, ih]; rfl
theorem chainF_isD {n : Nat} {t : T} (h : isD t = true) : isD (chainF n t) = true := by
  cases n with
  | zero => exact h
  | succ n => rw [chainF_succ]; exact sumL_isD _
/-! ### digits -/
def hexval (b : UInt8) : Nat := if b.toNat ≤ 57 then b.toNat - 48 else b.toNat - 87
theorem hexval_le {b : UInt8} (h : isHex b = true) : hexval b ≤ 15 := by
  unfold isHex at h
  simp only [Bool.or_eq_true, Bool.and_eq_true, decide_eq_true_eq] at h
  unfold hexval; split <;> omega
theorem hexval_inj {a b : UInt8} (ha : isHex a = true) (hb : isHex b = true) (e : hexval a = hexval b) : a = b := by
  unfold isHex at ha hb
  simp only [Bool.or_eq_true, Bool.and_eq_true, decide_eq_true_eq] at ha hb
  apply UInt8.toNat_inj.1
  unfold hexval at e; split at e <;> split at e <;> omega
theorem map_hexval_inj : ∀ {l m : T}, (∀ b ∈ l, isHex b = true) → (∀ b ∈ m, isHex b = true) → l.map hexval = m.map hexval → l = m
  | [], [], _, _, _ => rfl
  | [], _ :: _, _, _, e => by simp at e
  | _ :: _, [], _, _, e => by simp at e
  | a :: l, b :: m, hl, hm, e => by
    simp only [List.map_cons, List.cons.injEq] at e
    rw [hexval_inj (hl a (by simp)) (hm b (by simp)) e.1, map_hexval_inj (fun x h => hl x (by simp [h])) (fun x h => hm x (by simp [h])) e.2]
def restF : List Nat → Nat
  | [] => 0
  | d :: l => (15 - d) + restF l
theorem restF_append (l m : List Nat) : restF (l ++ m) = restF l + restF m := by
  induction l with
  | nil => simp [restF]
  | cons d l ih => simp [restF, ih]; omega
theorem restF_le (l : List Nat) : restF l ≤ 15 * l.length := by
  induction l with
  | nil => simp [restF]
  | cons d l ih => simp [restF]; omega
def full (l : List Nat) : List Nat := l ++ [restF l / 16, restF l % 16]
def dgs (m : T) : List Nat := (sumL m).map hexval
def digs (m : T) : List Nat := full (dgs m)
theorem dgs_len (m : T) : (dgs m).length = 16 := by unfold dgs sumL; rw [List.length_map, hex_len]
theorem digs_len (m : T) : (digs m).length = 18 := by unfold digs full; rw [List.length_append, dgs_len]; rfl
theorem sumL_hex (m : T) : ∀ b ∈ sumL m, isHex b = true := hex_all _ _
theorem dgs_le (m : T) : ∀ d ∈ dgs m, d ≤ 15 := by
  intro d hd
  obtain ⟨b, hb, rfl⟩ := List.mem_map.1 hd
  exact hexval_le (sumL_hex m b hb)
theorem dgs_inj {m n : T} (e : dgs m = dgs n) : sumL m = sumL n := map_hexval_inj (sumL_hex m) (sumL_hex n) e
theorem digs_mem_le (m : T) : ∀ d ∈ digs m, d ≤ 15 := by
  intro d hd
  unfold digs full at hd
  have h1 := restF_le (dgs m)
  rw [dgs_len] at h1
  rcases List.mem_append.1 hd with h | h
  · exact dgs_le m d h
  · simp only [List.mem_cons, List.not_mem_nil, or_false] at h
    generalize restF (dgs m) = r at *
    rcases h with h | h <;> omega
theorem digs_le (m : T) (k : Nat) : (digs m).getD k 0 ≤ 15 := by
  rw [List.getD_eq_getElem?_getD]
  by_cases h : k < (digs m).length
  · rw [List.getElem?_eq_getElem h]; exact digs_mem_le m _ (List.getElem_mem h)
  · rw [List.getElem?_eq_none (by omega)]; simp
theorem rest_lt : ∀ {l m : List Nat}, l.length = m.length → (∀ k, k < l.length → l.getD k 0 ≤ m.getD k 0) → restF m ≤ restF l
  | [], [], _, _ => Nat.le_refl _
  | a :: l, b :: m, hl, h => by
    have h0 := h 0 (by simp)
    have := rest_lt (l := l) (m := m) (by simpa using hl) (fun k hk => by simpa using h (k + 1) (by simp; omega))
    simp [restF] at *; omega
theorem rest_lt' : ∀ {l m : List Nat}, l.length = m.length → (∀ d ∈ m, d ≤ 15) → (∀ k, k < l.length → l.getD k 0 ≤ m.getD k 0) → l ≠ m → restF m < restF l
  | [], [], _, _, _, hn => absurd rfl hn
  | a :: l, b :: m, hl, hm, h, hn => by
    have h0 := h 0 (by simp)
    have hb := hm b (by simp)
    have hl' : l.length = m.length := by simpa using hl
    have h' : ∀ k, k < l.length → l.getD k 0 ≤ m.getD k 0 := fun k hk => by simpa using h (k + 1) (by simp; omega)
    have h1 := rest_lt hl' h'
    by_cases e : a = b
    · subst e
      have := rest_lt' hl' (fun d hd => hm d (by simp [hd])) h' (fun e => hn (by rw [e]))
      simp [restF]; omega
    · simp [restF] at *; omega
theorem full_less {l m : List Nat} (hl : l.length = m.length) (hm : ∀ d ∈ m, d ≤ 15) (hn : l ≠ m) : ∃ k, k < l.length + 2 ∧ (full m).getD k 0 < (full l).getD k 0 := by
  by_cases h : ∀ k, k < l.length → l.getD k 0 ≤ m.getD k 0
  · have hr := rest_lt' hl hm h hn
    unfold full
    have gl : ∀ (l : List Nat) (x y : Nat), (l ++ [x, y]).getD l.length 0 = x := fun l x y => by simp [List.getD_eq_getElem?_getD]
    have gm : ∀ (l : List Nat) (x y : Nat), (l ++ [x, y]).getD (l.length + 1) 0 = y := fun l x y => by simp [List.getD_eq_getElem?_getD, List.getElem?_append]
    by_cases h2 : restF m / 16 < restF l / 16
    · exact ⟨l.length, by omega, by rw [gl, hl, gl]; exact h2⟩
    · exact ⟨l.length + 1, by omega, by rw [gm, hl, gm]; omega⟩
  · have hh : ∃ k, k < l.length ∧ m.getD k 0 < l.getD k 0 := by
      apply Classical.byContradiction
      intro hno
      exact h (fun k hk => by
        apply Classical.byContradiction
        intro h3
        exact hno ⟨k, hk, by omega⟩)
    obtain ⟨k, hk, hlt⟩ := hh
    refine ⟨k, by omega, ?_⟩
    unfold full
    rw [List.getD_eq_getElem?_getD, List.getD_eq_getElem?_getD, List.getElem?_append_left (by omega), List.getElem?_append_left hk, ← List.getD_eq_getElem?_getD, ← List.getD_eq_getElem?_getD]
    exact hlt
theorem digs_less {m n : T} (h : sumL m ≠ sumL n) : ∃ k, k < 18 ∧ (digs n).getD k 0 < (digs m).getD k 0 := by
  have := full_less (l := dgs m) (m := dgs n) (by rw [dgs_len, dgs_len]) (dgs_le n) (fun e => h (dgs_inj e))
  rw [dgs_len] at this
  exact this
/-! ### trees -/
def nodeB : T := [110, 111, 100, 101]
def nodeT (a b : T) : T := joined [nodeB, a, b]
def up : List T → List T
  | a :: b :: r => sumL (nodeT a b) :: up r
  | _ => []
def texts : List T → List T
  | a :: b :: r => nodeT a b :: texts r
  | _ => []
theorem up_len : ∀ l : List T, (up l).length = l.length / 2
  | [] => rfl
  | [_] => by simp [up]
  | a :: b :: r => by rw [up, List.length_cons, up_len r, List.length_cons, List.length_cons]; omega
theorem up_texts : ∀ l : List T, up l = (texts l).map sumL
  | [] => rfl
  | [_] => rfl
  | a :: b :: r => by rw [up, texts, List.map_cons, up_texts r]
theorem texts_get : ∀ (l : List T) (j : Nat), 2 * j + 1 < l.length → nodeT (l.getD (2 * j) []) (l.getD (2 * j + 1) []) ∈ texts l ∧ (up l).getD j [] = sumL (nodeT (l.getD (2 * j) []) (l.getD (2 * j + 1) []))
  | [], j, h => by simp at h
  | [_], j, h => by simp at h
  | a :: b :: r, 0, _ => by simp [texts, up]
  | a :: b :: r, j + 1, h => by
    have := texts_get r j (by simp at h; omega)
    rw [show 2 * (j + 1) = (2 * j) + 1 + 1 by omega, texts, up]
    refine ⟨List.mem_cons_of_mem _ ?_, ?_⟩
    · simpa using this.1
    · simpa using this.2
theorem up_inj : ∀ {l m : List T} {X : T → Prop}, l.length = m.length → l.length % 2 = 0 → (∀ a ∈ texts l, X a) → (∀ a ∈ texts m, X a) → (∀ a b, X a → X b → sumL a = sumL b → a = b) → up l = up m → l = m
  | [], [], _, _, _, _, _, _, _ => rfl
  | [_], _, _, _, h, _, _, _, _ => by simp at h
  | a :: b :: r, [], _, hl, _, _, _, _, _ => by simp at hl
  | a :: b :: r, [_], _, hl, _, _, _, _, _ => by simp at hl
  | a :: b :: r, c :: d :: s, X, hl, hp, hx, hy, hi, e => by
    simp only [up, List.cons.injEq] at e
    have h1 := hi _ _ (hx _ (by simp [texts])) (hy _ (by simp [texts])) e.1
    have h2 := joined_inj h1
    simp only [List.cons.injEq] at h2
    rw [h2.2.1, h2.2.2.1, up_inj (l := r) (m := s) (X := X) (by simpa using hl) (by simp at hp; omega) (fun a h => hx a (by simp [texts, h])) (fun a h => hy a (by simp [texts, h])) hi e.2]
def root : Nat → List T → T
  | 0, l => l.getD 0 []
  | h + 1, l => root h (up l)
def madeTree : Nat → List T → List T
  | 0, _ => []
  | h + 1, l => texts l ++ madeTree h (up l)
def sib (i : Nat) : Nat := if i % 2 = 0 then i + 1 else i - 1
def path : Nat → List T → Nat → List T
  | 0, _, _ => []
  | h + 1, l, i => l.getD (sib i) [] :: path h (up l) (i / 2)
theorem path_len : ∀ (h : Nat) (l : List T) (i : Nat), (path h l i).length = h
  | 0, _, _ => rfl
  | h + 1, l, i => by rw [path, List.length_cons, path_len h]
/-- the text above two digests, the first of which is the right one if the index is odd -/
def pairT (i : Nat) (at_ o : T) : T := if i % 2 = 1 then nodeT o at_ else nodeT at_ o
def climb : List T → Nat → T → T
  | [], _, a => a
  | o :: p, i, a => climb p (i / 2) (sumL (pairT i a o))
def climbT : List T → Nat → T → List T
  | [], _, _ => []
  | o :: p, i, a => pairT i a o :: climbT p (i / 2) (sumL (pairT i a o))
theorem pair_get {l : List T} {i : Nat} (h : i < l.length) (hp : l.length % 2 = 0) : pairT i (l.getD i []) (l.getD (sib i) []) = nodeT (l.getD (2 * (i / 2)) []) (l.getD (2 * (i / 2) + 1) []) := by
  unfold pairT sib
  by_cases hi : i % 2 = 0
  · rw [if_neg (by omega), if_pos hi, show 2 * (i / 2) = i by omega]
  · rw [if_pos (by omega), if_neg hi, show 2 * (i / 2) = i - 1 by omega, show i - 1 + 1 = i by omega]
theorem climb_path : ∀ (h : Nat) (l : List T) (i : Nat), l.length = 2 ^ h → i < 2 ^ h → climb (path h l i) i (l.getD i []) = root h l
  | 0, l, i, hl, hi => by
    have : i = 0 := by simpa using hi
    subst this; rfl
  | h + 1, l, i, hl, hi => by
    have hp : 2 ^ (h + 1) = 2 * 2 ^ h := by rw [Nat.pow_succ, Nat.mul_comm]
    rw [path, climb, root, pair_get (by omega) (by omega), ← (texts_get l (i / 2) (by omega)).2]
    exact climb_path h (up l) (i / 2) (by rw [up_len]; omega) (by omega)
theorem climb_append : ∀ (p q : List T) (i : Nat) (a : T), climb (p ++ q) i a = climb q (i / 2 ^ p.length) (climb p i a)
  | [], q, i, a => by simp [climb]
  | o :: p, q, i, a => by
    rw [List.cons_append, climb, climb, climb_append p q, List.length_cons, Nat.pow_succ, Nat.div_div_eq_div_mul, Nat.mul_comm 2]
theorem climbT_append : ∀ (p q : List T) (i : Nat) (a : T), climbT (p ++ q) i a = climbT p i a ++ climbT q (i / 2 ^ p.length) (climb p i a)
  | [], q, i, a => by simp [climb, climbT]
  | o :: p, q, i, a => by
    rw [List.cons_append, climb, climbT, climbT, climbT_append p q, List.length_cons, Nat.pow_succ, Nat.div_div_eq_div_mul, Nat.mul_comm 2, List.cons_append]
theorem climb_node : ∀ (p : List T) (i : Nat) (a : T), p ≠ [] → ∃ x y, nodeT x y ∈ climbT p i a ∧ climb p i a = sumL (nodeT x y)
  | [], _, _, h => absurd rfl h
  | [o], i, a, _ => by
    simp only [climb, climbT, pairT]
    split
    · exact ⟨_, _, List.mem_singleton.2 rfl, rfl⟩
    · exact ⟨_, _, List.mem_singleton.2 rfl, rfl⟩
  | o :: o2 :: p, i, a, _ => by
    obtain ⟨x, y, h1, h2⟩ := climb_node (o2 :: p) (i / 2) (sumL (pairT i a o)) (by simp)
    exact ⟨x, y, by rw [climbT]; exact List.mem_cons_of_mem _ h1, by rw [climb]; exact h2⟩
/-- one to one on the texts that were digested -/
def Inj (X : List T) : Prop := ∀ a ∈ X, ∀ b ∈ X, sumL a = sumL b → a = b
theorem climb_inj {X : List T} (hX : Inj X) : ∀ (h : Nat) (l : List T) (p : List T) (i : Nat) (t : T), l.length = 2 ^ h → p.length = h → i < 2 ^ h → (∀ a ∈ madeTree h l, a ∈ X) → (∀ a ∈ climbT p i (sumL t), a ∈ X) →
    climb p i (sumL t) = root h l → sumL t = l.getD i [] ∧ p = path h l i
  | 0, l, [], i, t, hl, _, hi, _, _, e => by
    have : i = 0 := by simpa using hi
    subst this
    exact ⟨e, rfl⟩
  | h + 1, l, o :: p, i, t, hl, hp, hi, hm, hc, e => by
    have h2 : 2 ^ (h + 1) = 2 * 2 ^ h := by rw [Nat.pow_succ, Nat.mul_comm]
    obtain ⟨e1, e2⟩ := climb_inj hX h (up l) p (i / 2) (pairT i (sumL t) o) (by rw [up_len]; omega) (by simpa using hp) (by omega) (fun a ha => hm a (by rw [madeTree]; exact List.mem_append_right _ ha)) (fun a ha => hc a (by rw [climbT]; exact List.mem_cons_of_mem _ ha)) e
    obtain ⟨g1, g2⟩ := texts_get l (i / 2) (by omega)
    rw [g2] at e1
    have e3 := hX _ (hc _ (by rw [climbT]; exact List.mem_cons_self)) _ (hm _ (by rw [madeTree]; exact List.mem_append_left _ g1)) e1
    rw [path, e2]
    unfold pairT at e3
    unfold sib
    by_cases h0 : i % 2 = 0
    · rw [if_neg (by omega)] at e3
      have := joined_inj e3
      simp only [List.cons.injEq] at this
      rw [if_pos h0]
      rw [show 2 * (i / 2) = i by omega] at this
      exact ⟨this.2.1, by rw [this.2.2.1]⟩
    · rw [if_pos (by omega)] at e3
      have := joined_inj e3
      simp only [List.cons.injEq] at this
      rw [if_neg h0]
      rw [show 2 * (i / 2) = i - 1 by omega, show i - 1 + 1 = i by omega] at this
      exact ⟨this.2.2.1, by rw [this.2.1]⟩
def ups : Nat → List T → List T
  | 0, l => l
  | k + 1, l => ups k (up l)
theorem ups_succ (k : Nat) (l : List T) : ups (k + 1) l = up (ups k l) := by
  induction k generalizing l with
  | zero => rfl
  | succ k ih => rw [ups, ih]; rfl
theorem ups_len (k h : Nat) (l : List T) (hl : l.length = 2 ^ (k + h)) : (ups k l).length = 2 ^ h := by
  induction k generalizing l with
  | zero => simpa [ups] using hl
  | succ k ih =>
    rw [ups]
    refine ih _ ?_
    rw [up_len, hl, show k + 1 + h = (k + h) + 1 by omega, Nat.pow_succ]; omega
theorem root_ups (k h : Nat) (l : List T) : root (k + h) l = root h (ups k l) := by
  induction k generalizing l with
  | zero => simp [ups]
  | succ k ih => rw [show k + 1 + h = (k + h) + 1 by omega, root, ih, ups]
theorem made_ups (k h : Nat) (l : List T) : ∀ a ∈ madeTree h (ups k l), a ∈ madeTree (k + h) l := by
  induction k generalizing l with
  | zero => simp [ups]
  | succ k ih =>
    intro a ha
    rw [show k + 1 + h = (k + h) + 1 by omega, madeTree]
    exact List.mem_append_right _ (ih _ a ha)
theorem made_texts (k h : Nat) (l : List T) : ∀ a ∈ texts (ups k l), a ∈ madeTree (k + h + 1) l := by
  intro a ha
  have := made_ups k (h + 1) l a (by rw [madeTree]; exact List.mem_append_left _ ha)
  exact this
theorem node_len {x y : T} {L : List T} (e : joined L = nodeT x y) : L.length = 3 := by rw [joined_inj e]; rfl
/-- the path has the tree's height, and is the one of the index -/
theorem climb_sound {X : List T} (hX : Inj X) {h : Nat} {l : List T} (K : Nat → List T) (hl : l.length = 2 ^ h) (hk : ∀ i, i < 2 ^ h → l.getD i [] = sumL (joined (K i)) ∧ joined (K i) ∈ X ∧ (K i).length = 18) (hm : ∀ a ∈ madeTree h l, a ∈ X)
    {p : List T} {i : Nat} {L : List T} (hL : L.length = 18) (hi : i < 2 ^ p.length) (ht : joined L ∈ X) (hc : ∀ a ∈ climbT p i (sumL (joined L)), a ∈ X) (e : climb p i (sumL (joined L)) = root h l) :
    p.length = h ∧ i < 2 ^ h ∧ L = K i ∧ p = path h l i := by
  rcases Nat.lt_trichotomy p.length h with hlt | heq | hgt
  · exfalso
    obtain ⟨k, rfl⟩ : ∃ k, h = (k + 1) + p.length := ⟨h - p.length - 1, by omega⟩
    rw [root_ups] at e
    obtain ⟨e1, _⟩ := climb_inj hX p.length (ups (k + 1) l) p i (joined L) (ups_len _ _ _ hl) rfl hi (fun a ha => hm a (made_ups _ _ _ a ha)) hc e
    have hk1 : (ups k l).length = 2 ^ (p.length + 1) := ups_len k (p.length + 1) l (by rw [hl]; congr 1; omega)
    have hp2 : 2 ^ (p.length + 1) = 2 * 2 ^ p.length := by rw [Nat.pow_succ, Nat.mul_comm]
    obtain ⟨g1, g2⟩ := texts_get (ups k l) i (by omega)
    rw [ups_succ, g2] at e1
    have hin := made_texts k p.length l _ g1
    rw [show k + p.length + 1 = k + 1 + p.length by omega] at hin
    have := node_len (hX _ ht _ (hm _ hin) e1)
    omega
  · subst heq
    obtain ⟨e1, e2⟩ := climb_inj hX p.length l p i (joined L) hl rfl hi hm hc e
    obtain ⟨k1, k2, k3⟩ := hk i hi
    rw [k1] at e1
    exact ⟨rfl, hi, joined_inj (hX _ ht _ k2 e1), e2⟩
  · exfalso
    have hpl : (p.take (p.length - h)).length = p.length - h := by rw [List.length_take]; omega
    have hne : p.take (p.length - h) ≠ [] := fun e0 => by rw [e0] at hpl; simp at hpl; omega
    rw [← List.take_append_drop (p.length - h) p] at e hc
    rw [climb_append] at e
    rw [climbT_append] at hc
    obtain ⟨x, y, h1, h2⟩ := climb_node _ i (sumL (joined L)) hne
    rw [h2] at e hc
    rw [hpl] at e hc
    have hi' : i / 2 ^ (p.length - h) < 2 ^ h := by
      rw [Nat.div_lt_iff_lt_mul (Nat.pow_pos (by decide)), ← Nat.pow_add, show h + (p.length - h) = p.length by omega]; exact hi
    obtain ⟨e1, _⟩ := climb_inj hX h l (p.drop (p.length - h)) (i / 2 ^ (p.length - h)) (nodeT x y) hl (by rw [List.length_drop]; omega) hi' hm (fun a ha => hc a (List.mem_append_right _ ha)) e
    obtain ⟨k1, k2, k3⟩ := hk _ hi'
    rw [k1] at e1
    have := node_len (hX _ k2 _ (hc _ (List.mem_append_left _ h1)) e1.symm)
    omega
theorem root_inj {X : List T} (hX : Inj X) : ∀ (h : Nat) (l m : List T), l.length = 2 ^ h → m.length = 2 ^ h → (∀ a ∈ madeTree h l, a ∈ X) → (∀ a ∈ madeTree h m, a ∈ X) → root h l = root h m → l = m
  | 0, l, m, hl, hm, _, _, e => by
    match l, m, hl, hm with
    | [a], [b], _, _ => simpa [root] using e
  | h + 1, l, m, hl, hm, hx, hy, e => by
    have h2 : 2 ^ (h + 1) = 2 * 2 ^ h := by rw [Nat.pow_succ, Nat.mul_comm]
    have := root_inj hX h (up l) (up m) (by rw [up_len]; omega) (by rw [up_len]; omega) (fun a ha => hx a (by rw [madeTree]; exact List.mem_append_right _ ha)) (fun a ha => hy a (by rw [madeTree]; exact List.mem_append_right _ ha)) e
    exact up_inj (X := (· ∈ X)) (by omega) (by omega) (fun a ha => hx a (by rw [madeTree]; exact List.mem_append_left _ ha)) (fun a ha => hy a (by rw [madeTree]; exact List.mem_append_left _ ha)) (fun a b ha hb => hX a ha b hb) this
/-! ### keys -/
def startT (s : T) (i k : Nat) : T := joined [s, dec i, dec k]
def start (s : T) (i k : Nat) : T := sumL (startT s i k)
def endsF (s : T) (i : Nat) : List T := (List.range 18).map fun k => chainF 15 (start s i k)
def keyT (s : T) (i : Nat) : T := joined (endsF s i)
def key (s : T) (i : Nat) : T := sumL (keyT s i)
def keysF (s : T) (h : Nat) : List T := (List.range (2 ^ h)).map (key s)
def publicF (s : T) (h : Nat) : T := root h (keysF s h)
def sigF (s : T) (i : Nat) (m : T) : List T := (List.range 18).map fun k => chainF ((digs m).getD k 0) (start s i k)
def pathS (s : T) (h i : Nat) : List T := path h (keysF s h) i
def vends (m : T) (sig : List T) : List T := (List.range 18).map fun k => chainF (15 - (digs m).getD k 0) (sig.getD k [])
def vkT (m : T) (sig : List T) : T := joined (vends m sig)
def chained (n : Nat) (t : T) : List T := (List.range (n + 1)).map fun j => chainF j t
def madeLeaf (s : T) (n i : Nat) : List T := ((List.range 18).flatMap fun k => startT s i k :: chained n (start s i k)) ++ [keyT s i]
def Made (s : T) (h n : Nat) : List T := ((List.range (2 ^ h)).flatMap (madeLeaf s n)) ++ madeTree h (keysF s h)
def Checked (m : T) (i : Nat) (sig p : List T) : List T := ((List.range 18).flatMap fun k => chained (15 - (digs m).getD k 0) (sig.getD k [])) ++ (vkT m sig :: climbT p i (sumL (vkT m sig)))
theorem keysF_len (s : T) (h : Nat) : (keysF s h).length = 2 ^ h := by simp [keysF]
theorem keysF_get {s : T} {h i : Nat} (hi : i < 2 ^ h) : (keysF s h).getD i [] = key s i := by simp [keysF, List.getD_eq_getElem?_getD, hi]
theorem range_get {f : Nat → T} {n k : Nat} (h : k < n) : ((List.range n).map f).getD k [] = f k := by simp [List.getD_eq_getElem?_getD, h]
theorem made_key {s : T} {h n i : Nat} (hi : i < 2 ^ h) : keyT s i ∈ Made s h n := by
  unfold Made
  refine List.mem_append_left _ (List.mem_flatMap.2 ⟨i, List.mem_range.2 hi, ?_⟩)
  unfold madeLeaf; simp
theorem made_start {s : T} {h n i k : Nat} (hi : i < 2 ^ h) (hk : k < 18) : startT s i k ∈ Made s h n := by
  unfold Made
  refine List.mem_append_left _ (List.mem_flatMap.2 ⟨i, List.mem_range.2 hi, ?_⟩)
  unfold madeLeaf
  exact List.mem_append_left _ (List.mem_flatMap.2 ⟨k, List.mem_range.2 hk, by simp⟩)
theorem chained_mem {n j : Nat} {t : T} (h : j ≤ n) : chainF j t ∈ chained n t := List.mem_map.2 ⟨j, List.mem_range.2 (by omega), rfl⟩
theorem made_chain {s : T} {h n i k j : Nat} (hi : i < 2 ^ h) (hk : k < 18) (hj : j ≤ n) : chainF j (start s i k) ∈ Made s h n := by
  unfold Made
  refine List.mem_append_left _ (List.mem_flatMap.2 ⟨i, List.mem_range.2 hi, ?_⟩)
  unfold madeLeaf
  exact List.mem_append_left _ (List.mem_flatMap.2 ⟨k, List.mem_range.2 hk, List.mem_cons_of_mem _ (chained_mem hj)⟩)
theorem made_tree {s : T} {h n : Nat} : ∀ a ∈ madeTree h (keysF s h), a ∈ Made s h n := fun _ ha => List.mem_append_right _ ha
theorem checked_chain {m : T} {i k j : Nat} {sig p : List T} (hk : k < 18) (hj : j ≤ 15 - (digs m).getD k 0) : chainF j (sig.getD k []) ∈ Checked m i sig p :=
  List.mem_append_left _ (List.mem_flatMap.2 ⟨k, List.mem_range.2 hk, chained_mem hj⟩)
theorem checked_key {m : T} {i : Nat} {sig p : List T} : vkT m sig ∈ Checked m i sig p := List.mem_append_right _ (by simp)
theorem checked_climb {m : T} {i : Nat} {sig p : List T} : ∀ a ∈ climbT p i (sumL (vkT m sig)), a ∈ Checked m i sig p := fun _ ha => List.mem_append_right _ (List.mem_cons_of_mem _ ha)
/-- what Verify computes behind its tests -/
def verF (m : T) (i : Nat) (sig p : List T) : T := climb p i (sumL (vkT m sig))
theorem vends_sig {s m : T} {i : Nat} : vends m (sigF s i m) = endsF s i := by
  unfold vends endsF
  refine List.map_congr_left fun k hk => ?_
  have hd := digs_le m k
  rw [sigF, range_get (List.mem_range.1 hk), ← chainF_add, show 15 - (digs m).getD k 0 + (digs m).getD k 0 = 15 by omega]
theorem verifies {s m : T} {h i : Nat} (hi : i < 2 ^ h) : verF m i (sigF s i m) (pathS s h i) = publicF s h := by
  unfold verF pathS publicF
  rw [vkT, vends_sig, show sumL (joined (endsF s i)) = (keysF s h).getD i [] by rw [keysF_get hi]; rfl]
  exact climb_path h _ i (keysF_len s h) hi
theorem chain_cancel {X : List T} (hX : Inj X) : ∀ (n : Nat) (a b : T), (∀ j, j < n → chainF j a ∈ X) → (∀ j, j < n → chainF j b ∈ X) → chainF n a = chainF n b → a = b
  | 0, _, _, _, _, e => e
  | n + 1, a, b, ha, hb, e => by
    rw [chainF_succ, chainF_succ] at e
    exact chain_cancel hX n a b (fun j hj => ha j (by omega)) (fun j hj => hb j (by omega)) (hX _ (ha n (by omega)) _ (hb n (by omega)) e)
theorem vends_len (m : T) (sig : List T) : (vends m sig).length = 18 := by simp [vends]
theorem endsF_len (s : T) (i : Nat) : (endsF s i).length = 18 := by simp [endsF]
theorem ver_ends {X : List T} (hX : Inj X) {s m : T} {h n i : Nat} {sig p : List T} (hM : ∀ a ∈ Made s h n, a ∈ X) (hC : ∀ a ∈ Checked m i sig p, a ∈ X) (hi : i < 2 ^ p.length) (e : verF m i sig p = publicF s h) :
    p.length = h ∧ i < 2 ^ h ∧ vends m sig = endsF s i ∧ p = pathS s h i :=
  climb_sound hX (endsF s) (keysF_len s h) (fun i hi => ⟨keysF_get hi, hM _ (made_key hi), endsF_len s i⟩) (fun a ha => hM a (made_tree a ha)) (vends_len m sig) hi (hC _ checked_key) (fun a ha => hC a (checked_climb a ha)) e
theorem ends_at {s m : T} {i : Nat} {sig : List T} (e : vends m sig = endsF s i) {k : Nat} (hk : k < 18) : chainF (15 - (digs m).getD k 0) (sig.getD k []) = chainF 15 (start s i k) := by
  have := congrArg (fun l => List.getD l k []) e
  simpa only [vends, endsF, range_get hk] using this
theorem list_of_get {sig : List T} {f : Nat → T} (hl : sig.length = 18) (h : ∀ k, k < 18 → sig.getD k [] = f k) : sig = (List.range 18).map f := by
  refine List.ext_getElem (by simp [hl]) fun k h1 h2 => ?_
  have := h k (by omega)
  rw [List.getD_eq_getElem?_getD, List.getElem?_eq_getElem h1] at this
  simpa using this
theorem sound {X : List T} (hX : Inj X) {s m : T} {h n i : Nat} {sig p : List T} (hn : 15 ≤ n) (hM : ∀ a ∈ Made s h n, a ∈ X) (hC : ∀ a ∈ Checked m i sig p, a ∈ X) (hl : sig.length = 18) (hi : i < 2 ^ p.length) (e : verF m i sig p = publicF s h) :
    p.length = h ∧ i < 2 ^ h ∧ sig = sigF s i m ∧ p = pathS s h i := by
  obtain ⟨h1, h2, h3, h4⟩ := ver_ends hX hM hC hi e
  refine ⟨h1, h2, ?_, h4⟩
  unfold sigF
  refine list_of_get hl fun k hk => ?_
  have e1 := ends_at h3 hk
  have hd := digs_le m k
  rw [show (15 : Nat) = (15 - (digs m).getD k 0) + (digs m).getD k 0 by omega, chainF_add, show (15 - (digs m).getD k 0) + (digs m).getD k 0 - (digs m).getD k 0 = 15 - (digs m).getD k 0 by omega] at e1
  refine chain_cancel hX _ _ _ (fun j hj => hC _ (checked_chain hk (by omega))) (fun j hj => ?_) e1
  rw [← chainF_add]
  exact hM _ (made_chain h2 hk (by omega))
theorem startT_colon (s : T) (i k : Nat) : (58 : UInt8) ∈ startT s i k := by simp [startT, joined, elem]
theorem isD_nocolon {t : T} (h : isD t = true) : (58 : UInt8) ∉ t := by
  intro hm
  unfold isD at h
  rw [Bool.and_eq_true, List.all_eq_true] at h
  have := h.2 58 hm
  exact absurd this (by decide)
theorem binds {X : List T} (hX : Inj X) {s m o : T} {h i : Nat} (hM : ∀ a ∈ Made s h 30, a ∈ X) (hC : ∀ a ∈ Checked o i (sigF s i m) (pathS s h i), a ∈ X) (hi : i < 2 ^ h) (hne : sumL m ≠ sumL o) (e : verF o i (sigF s i m) (pathS s h i) = publicF s h) : False := by
  obtain ⟨_, h2, h3, _⟩ := ver_ends hX hM hC (by unfold pathS; rw [path_len]; exact hi) e
  obtain ⟨k, hk, hlt⟩ := digs_less hne
  have e1 := ends_at h3 hk
  rw [sigF, range_get hk, ← chainF_add] at e1
  have d1 := digs_le m k
  have d2 := digs_le o k
  obtain ⟨q, hq⟩ : ∃ q, 15 - (digs o).getD k 0 + (digs m).getD k 0 = 15 + (q + 1) := ⟨(digs m).getD k 0 - (digs o).getD k 0 - 1, by omega⟩
  rw [hq, chainF_add] at e1
  have e2 := chain_cancel hX 15 _ _ (fun j hj => by rw [← chainF_add]; exact hM _ (made_chain h2 hk (by omega))) (fun j hj => hM _ (made_chain h2 hk (by omega))) e1
  rw [chainF_succ] at e2
  have e3 := hX _ (hM _ (made_chain h2 hk (by omega))) _ (hM _ (made_start h2 hk)) e2
  have h5 := startT_colon s i k
  rw [← e3] at h5
  exact isD_nocolon (chainF_isD (sumL_isD _)) h5
theorem start_inj {X : List T} (hX : Inj X) {s s' : T} {i i' k : Nat} (h1 : startT s i k ∈ X) (h2 : startT s' i' k ∈ X) (e : start s i k = start s' i' k) : s = s' ∧ i = i' := by
  have := joined_inj (hX _ h1 _ h2 e)
  simp only [List.cons.injEq] at this
  exact ⟨this.1, dec_inj this.2.1⟩
theorem sig_inj {X : List T} (hX : Inj X) {s m : T} {h i j : Nat} (hM : ∀ a ∈ Made s h 15, a ∈ X) (hi : i < 2 ^ h) (hj : j < 2 ^ h) (e : sigF s i m = sigF s j m) : i = j := by
  have e1 := congrArg (fun l => List.getD l 0 []) e
  simp only [sigF, range_get (show 0 < 18 by decide)] at e1
  have hd := digs_le m 0
  have e2 := chain_cancel hX _ _ _ (fun q hq => hM _ (made_chain hi (by decide) (by omega))) (fun q hq => hM _ (made_chain hj (by decide) (by omega))) e1
  exact (start_inj hX (hM _ (made_start hi (by decide))) (hM _ (made_start hj (by decide))) e2).2
theorem secrets {X : List T} (hX : Inj X) {s s' : T} {h : Nat} (hM : ∀ a ∈ Made s h 15, a ∈ X) (hM' : ∀ a ∈ Made s' h 15, a ∈ X) (e : publicF s h = publicF s' h) : s = s' := by
  have e1 := root_inj hX h _ _ (keysF_len s h) (keysF_len s' h) (fun a ha => hM a (made_tree a ha)) (fun a ha => hM' a (made_tree a ha)) e
  have h0 : 0 < 2 ^ h := Nat.pow_pos (by decide)
  have e2 := congrArg (fun l => List.getD l 0 []) e1
  simp only [keysF_get h0] at e2
  have e3 := joined_inj (hX _ (hM _ (made_key h0)) _ (hM' _ (made_key h0)) e2)
  have e4 := congrArg (fun l => List.getD l 0 []) e3
  simp only [endsF, range_get (show 0 < 18 by decide)] at e4
  have e5 := chain_cancel hX _ _ _ (fun q hq => hM _ (made_chain h0 (by decide) (by omega))) (fun q hq => hM' _ (made_chain h0 (by decide) (by omega))) e4
  exact (start_inj hX (hM _ (made_start h0 (by decide))) (hM' _ (made_start h0 (by decide))) e5).1
/-- a further element of the seal, or another index -/
theorem changes {X : List T} (hX : Inj X) {s m : T} {h i j : Nat} {sig p : List T} (hM : ∀ a ∈ Made s h 15, a ∈ X) (hC : ∀ a ∈ Checked m j sig p, a ∈ X) (hl : sig.length = 18) (hj : j < 2 ^ p.length) (hi : i < 2 ^ h) (e : verF m j sig p = publicF s h)
    (hij : i = j ∨ sig = sigF s i m) : i = j ∧ sig = sigF s i m ∧ p = pathS s h i := by
  obtain ⟨_, h2, h3, h4⟩ := sound hX (Nat.le_refl _) hM hC hl hj e
  have : i = j := by
    rcases hij with h0 | h0
    · exact h0
    · exact sig_inj hX hM hi h2 (h0.symm.trans h3)
  subst this
  exact ⟨rfl, h3, h4⟩
end Go.Proofs.YthceonkdmcidcaaDoor.Sl
