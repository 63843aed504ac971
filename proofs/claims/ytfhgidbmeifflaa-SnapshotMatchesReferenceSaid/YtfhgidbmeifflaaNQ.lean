/- WORDS: Collect, plainly; its loops' relations. -/
import Derived.Test.YtfhgidbmeifflaaNO
set_option linter.unusedSimpArgs false
set_option linter.unusedVariables false
namespace Go.Proofs.Ytfhgidbmeifflaa
open Go.RowKit Go.Maps Go.ChangeMaps Go.MapKept Go.WideShapes Go.WideMaps

/-- the times that count -/
structure TimesOf (s : Sh) (ts : List Nat) : Prop where
  ck : s.clk ∈ ts
  sub : ∀ c ∈ ts, c = s.clk ∨ ∃ i, s.rd i = some c
  all : ∀ i c, s.rd i = some c → c ∈ ts
theorem TimesOf.le {s : Sh} {ts : List Nat} (h : TimesOf s ts) (hI : ShInv s) : ∀ c ∈ ts, c ≤ s.clk := fun c hc => by
  rcases h.sub c hc with e | ⟨i, e⟩
  · omega
  · exact (hI.rdc i c e).1
def inN (ts : List Nat) : Int → Bool := fun y => ts.any fun c => decide ((c : Int) = y)
def idxN (l : List Sn.Val) (ts : List Nat) : Int → Bool := fun y => ts.any fun c => decide ((Sn.cntAt l c : Int) - 1 = y)
theorem inN_cons (ts : List Nat) (c : Nat) : (fun y => inN ts y || decide (y = (c : Int))) = inN (c :: ts) := by
  funext y
  unfold inN
  rw [List.any_cons, Bool.or_comm, decide_eq_decide.2 (show y = (c : Int) ↔ (c : Int) = y from ⟨Eq.symm, Eq.symm⟩)]
theorem idxN_cons (l : List Sn.Val) (ts : List Nat) (c : Nat) : (fun y => idxN l ts y || decide (y = (Sn.cntAt l c : Int) - 1)) = idxN l (c :: ts) := by
  funext y
  unfold idxN
  rw [List.any_cons, Bool.or_comm, decide_eq_decide.2 (show y = (Sn.cntAt l c : Int) - 1 ↔ (Sn.cntAt l c : Int) - 1 = y from ⟨Eq.symm, Eq.symm⟩)]
theorem boolM_none : (fun _ => none) = boolM (fun _ => false) := by
  funext kl
  cases kl with
  | int q y => cases q <;> rfl
  | _ => rfl
theorem inN_iff (ts : List Nat) (c : Nat) : inN ts (c : Int) = true ↔ c ∈ ts := by
  unfold inN
  rw [List.any_eq_true]
  constructor
  · rintro ⟨x, hx, e⟩
    have : (x : Int) = (c : Int) := by simpa using e
    rwa [show c = x by omega]
  · intro h; exact ⟨c, h, by simp⟩
theorem idx_need {l : List Sn.Val} {ts d : List Nat} (h : ∀ c, c ∈ d ↔ c ∈ ts) : (fun i : Nat => idxN l d (i : Int)) = Sn.needB l ts := by
  funext i
  unfold idxN Sn.needB
  rw [Bool.eq_iff_iff, List.any_eq_true, List.any_eq_true]
  constructor
  · rintro ⟨c, hc, e⟩
    exact ⟨c, (h c).1 hc, by simp at e ⊢; omega⟩
  · rintro ⟨c, hc, e⟩
    exact ⟨c, (h c).2 hc, by simp at e ⊢; omega⟩
theorem colls_nil (ts : List Nat) : Sn.colls [] ts = [] := rfl
theorem cntAt_all {l : List Sn.Val} {c : Nat} (h : ∀ v ∈ l, v.since ≤ c) : Sn.cntAt l c = l.length := by
  unfold Sn.cntAt
  rw [List.filter_eq_self.2 (fun v hv => by simpa using h v hv)]
theorem colls_ne {l : List Sn.Val} {ts : List Nat} {c : Nat} (hl : l ≠ []) (hc : c ∈ ts) (h : ∀ v ∈ l, v.since ≤ c) : Sn.colls l ts ≠ [] := by
  intro e
  have hp : 0 < l.length := List.length_pos_iff.2 hl
  have : l[l.length - 1] ∈ Sn.colls l ts := by
    unfold Sn.colls
    rw [Sn.collFrom_mem]
    refine ⟨l.length - 1, by omega, ?_, rfl⟩
    unfold Sn.needB
    rw [List.any_eq_true]
    exact ⟨c, hc, by rw [cntAt_all h]; simp; omega⟩
  rw [e] at this
  cases this
/-- the histories when the keys 'done' have been gone through -/
def collK (f : Tx → List Sn.Val) (ts : List Nat) (done : List Tx) : Tx → List Sn.Val := fun t => if t ∈ done then Sn.colls (f t) ts else f t
theorem collK_nil (f : Tx → List Sn.Val) (ts : List Nat) : collK f ts [] = f := by funext t; simp [collK]
theorem collK_step (f : Tx → List Sn.Val) (ts : List Nat) {done : List Tx} {t : Tx} : collK f ts (t :: done) = setK (collK f ts done) t (Sn.colls (f t) ts) := by
  funext u
  unfold collK setK
  by_cases e : u = t
  · subst e; rw [if_pos (by simp), if_pos rfl]
  · by_cases h : u ∈ done
    · rw [if_pos (by simp [h]), if_neg e]; exact (if_pos h).symm
    · rw [if_neg (by simp [h, e]), if_neg e]; exact (if_neg h).symm
theorem collK_out (f : Tx → List Sn.Val) (ts : List Nat) {done : List Tx} {t : Tx} (h : t ∉ done) : collK f ts done t = f t := if_neg h
def collectF (s : Sh) (ts : List Nat) : Sh := { s with keys := fun t => Sn.colls (s.keys t) ts }
theorem collectF_inv {s : Sh} (h : ShInv s) (ts : List Nat) : ShInv (collectF s ts) where
  ord := fun t => Sn.ord_sub (Sn.colls_sub _ _) (h.ord t)
  upto := fun t v hv => h.upto t v ((Sn.colls_sub _ _).subset hv)
  rdc := h.rdc
  ver := h.ver
  clk := h.clk
  opn := h.opn
  lim := h.lim
theorem rdM_inv {rd : Nat → Option Nat} {kl : Lit} {v : Value} (h : rdM rd kl = some v) : ∃ i c : Nat, kl = .int .i64 (i : Int) ∧ rd i = some c ∧ v = .int .i64 (c : Int) := by
  cases kl with
  | int q x =>
    cases q <;> try (cases h; done)
    have h : (if 0 ≤ x then (rd x.toNat).map (fun c : Nat => Value.int .i64 (c : Int)) else none) = some v := h
    by_cases h0 : 0 ≤ x
    · rw [if_pos h0] at h
      cases e : rd x.toNat with
      | none => rw [e] at h; cases h
      | some c => rw [e] at h; cases h; exact ⟨x.toNat, c, by rw [Int.toNat_of_nonneg h0], e, rfl⟩
    · rw [if_neg h0] at h; cases h
  | _ => cases h
/-- the times under way -/
structure TimR (w : World) (s : Sh) (br bt r : Nat) (wr : World) (left : Lit → Bool) (cnt nt : Nat) (ts : List Nat) : Prop where
  rg : MapRg wr Try.prog 3 br r (rdM s.rd) s.nrd left cnt
  tm : MapAt wr Try.prog 3 bt (boolM (inN ts)) nt
  bel : Below w.heap.size w wr
  ck : s.clk ∈ ts
  sub : ∀ c ∈ ts, c = s.clk ∨ ∃ i, s.rd i = some c
  all : ∀ i c, s.rd i = some c → c ∈ ts ∨ left (.int .i64 (i : Int)) = true
  len : nt + cnt ≤ 1 + s.nrd
/-- one reader more -/
theorem TimR.step {w w1 w2 wr : World} {s : Sh} {br bt r cnt cnt' nt nt' i c : Nat} {left : Lit → Bool} {ts : List Nat} (h : TimR w s br bt r wr left cnt nt ts) (hbt : w.heap.size ≤ bt) (hrz : w.heap.size ≤ r)
    (hi : s.rd i = some c) (hrg : MapRg w1 Try.prog 3 br r (rdM s.rd) s.nrd (fun x => left x && !x.sameKey (.int .i64 (i : Int))) cnt') (hlt : cnt' < cnt) (hg : wr.grownBy w1 (some r))
    (hm : MapAt w2 Try.prog 3 bt (updM (boolM (inN ts)) (.int .i64 (c : Int)) (.bool true)) nt') (hnt : nt' ≤ nt + 1) (hg2 : w1.grownBy w2 (some bt)) (hne : bt ≠ r) (hnb : bt ≠ br) :
    TimR w s br bt r w2 (fun x => left x && !x.sameKey (.int .i64 (i : Int))) cnt' nt' (c :: ts) := by
  refine ⟨hrg.kept hg2 (fun e => by cases e; exact hnb rfl) (fun e => by cases e; exact hne rfl), by rw [boolM_upd, inN_cons] at hm; exact hm, ?_, List.mem_cons_of_mem _ h.ck, ?_, ?_, ?_⟩
  · refine h.bel.trans ⟨hg2.os.trans hg.os, hg2.tape.trans hg.tape, hg2.output.trans hg.output, Nat.le_trans hg.size hg2.size, fun k hk => ?_⟩
    have hk1 : k < wr.heap.size := Nat.lt_of_lt_of_le hk h.bel.size
    exact (hg2.block k (Nat.lt_of_lt_of_le hk1 hg.size) (fun e => by cases e; omega)).trans (hg.block k hk1 (fun e => by cases e; omega))
  · intro c' hc'
    rcases List.mem_cons.1 hc' with e | e
    · exact .inr ⟨i, by rw [e]; exact hi⟩
    · exact h.sub c' e
  · intro i' c' hi'
    by_cases e : i' = i
    · subst e; rw [hi] at hi'; cases hi'; exact .inl (by simp)
    · rcases h.all i' c' hi' with h1 | h1
      · exact .inl (List.mem_cons_of_mem _ h1)
      · exact .inr (by simp [same_int, h1]; omega)
  · have := h.len; omega
theorem TimR.done {w wr : World} {s : Sh} {br bt r cnt nt : Nat} {left : Lit → Bool} {ts : List Nat} (h : TimR w s br bt r wr left cnt nt ts) (hl : ∀ kl, left kl = false) : TimesOf s ts :=
  ⟨h.ck, h.sub, fun i c hi => (h.all i c hi).resolve_right (by rw [hl]; simp)⟩
/-- the keys under way -/
structure ColR (w : World) (p : Nat) (F : Nat → Prop) (s : Sh) (ts : List Nat) (bm br bt r nk nt : Nat) (wr : World) (left : Lit → Bool) (cnt : Nat) (hd : List UInt8 → Option Value) (done : List Tx) : Prop where
  sh : ShMem wr p F { s with keys := collK s.keys ts done } bm br nk hd
  rg : MapRg wr Try.prog 9 bm r (keyM hd) nk left cnt
  tm : MapAt wr Try.prog 3 bt (boolM (inN ts)) nt
  but : But F w wr
  dn : ∀ t ∈ done, left (.string t) = false
  all : ∀ t, (hd t).isSome = true → t ∈ done ∨ left (.string t) = true
theorem ColR.done' {w wr : World} {p : Nat} {F : Nat → Prop} {s : Sh} {ts done : List _} {bm br bt r nk nt cnt : Nat} {left : Lit → Bool} {hd : List UInt8 → Option Value} (h : ColR w p F s ts bm br bt r nk nt wr left cnt hd done) (hl : ∀ kl, left kl = false) :
    collK s.keys ts done = (collectF s ts).keys := by
  funext t
  unfold collK
  by_cases ht : t ∈ done
  · rw [if_pos ht]; rfl
  · rw [if_neg ht]
    have h1 : hd t = none := by
      cases e : hd t with
      | none => rfl
      | some v => exact absurd ((h.all t (by rw [e]; rfl)).resolve_right (by rw [hl]; simp)) ht
    have h2 : collK s.keys ts done t = [] := h.sh.none_ t h1
    rw [collK_out _ _ ht] at h2
    show s.keys t = Sn.colls (s.keys t) ts
    rw [h2, colls_nil]
/-- the times of a key under way -/
structure IdxR (w : World) (ts : List Nat) (l : List Sn.Val) (bt bn b9 r nt : Nat) (wr : World) (left : Lit → Bool) (cnt nn : Nat) (d : List Nat) : Prop where
  rg : MapRg wr Try.prog 3 bt r (boolM (inN ts)) nt left cnt
  nm : MapAt wr Try.prog 3 bn (boolM (idxN l d)) nn
  c9 : wr.heap[b9]? = some (.cells #[.map (some bn)] 69 (0, 0))
  bel : Below w.heap.size w wr
  sub : ∀ c ∈ d, c ∈ ts
  all : ∀ c ∈ ts, c ∈ d ∨ left (.int .i64 (c : Int)) = true
  len : nn + cnt ≤ nt
theorem boolM_inv {ts : List Nat} {kl : Lit} {v : Value} (h : boolM (inN ts) kl = some v) : ∃ c : Nat, kl = .int .i64 (c : Int) ∧ c ∈ ts ∧ v = .bool true := by
  cases kl with
  | int q x =>
    cases q <;> try (cases h; done)
    have h : (if inN ts x then some (Value.bool true) else none) = some v := h
    cases hq : inN ts x
    · rw [hq] at h; cases h
    · rw [hq] at h; cases h
      have hq2 := hq
      unfold inN at hq
      obtain ⟨c, hc, e⟩ := List.any_eq_true.1 hq
      have e : (c : Int) = x := by simpa using e
      exact ⟨c, by rw [e], hc, rfl⟩
  | _ => cases h
theorem IdxR.step {w w1 w2 w3 wr : World} {ts : List Nat} {l : List Sn.Val} {bt bn b9 r nt cnt cnt' nn nn' c : Nat} {left : Lit → Bool} {d : List Nat} (h : IdxR w ts l bt bn b9 r nt wr left cnt nn d)
    (hbn : w.heap.size ≤ bn) (hrz : w.heap.size ≤ r) (hc : c ∈ ts) (hrg : MapRg w1 Try.prog 3 bt r (boolM (inN ts)) nt (fun x => left x && !x.sameKey (.int .i64 (c : Int))) cnt') (hlt : cnt' < cnt) (hg : wr.grownBy w1 (some r))
    (hb2 : Below w1.heap.size w1 w2) (hm : MapAt w3 Try.prog 3 bn (updM (boolM (idxN l d)) (.int .i64 ((Sn.cntAt l c : Int) - 1)) (.bool true)) nn') (hnn : nn' ≤ nn + 1) (hg3 : w2.grownBy w3 (some bn))
    (n1 : bn ≠ r) (n2 : bn ≠ bt) (n3 : bn ≠ b9) (n4 : b9 ≠ r) (hz9 : b9 < wr.heap.size) (hzr : r < wr.heap.size) (hzt : bt < wr.heap.size) :
    IdxR w ts l bt bn b9 r nt w3 (fun x => left x && !x.sameKey (.int .i64 (c : Int))) cnt' nn' (c :: d) := by
  have k1 : ∀ k, k < wr.heap.size → k ≠ bn → w3.heap[k]? = w1.heap[k]? := fun k hk hne => by
    have hk1 := Nat.lt_of_lt_of_le hk hg.size
    exact (hg3.block k (Nat.lt_of_lt_of_le hk1 hb2.size) (fun e => by cases e; exact hne rfl)).trans (hb2.block k hk1)
  refine ⟨hrg.same (k1 bt hzt n2.symm) (k1 r hzr n1.symm), by rw [boolM_upd, idxN_cons] at hm; exact hm, (k1 b9 hz9 n3.symm).trans ((hg.block b9 hz9 (fun e => by cases e; exact n4 rfl)).trans h.c9), ?_, ?_, ?_, ?_⟩
  · refine h.bel.trans ⟨(hg3.os.trans hb2.os).trans hg.os, (hg3.tape.trans hb2.tape).trans hg.tape, (hg3.output.trans hb2.output).trans hg.output, Nat.le_trans hg.size (Nat.le_trans hb2.size hg3.size), fun k hk => ?_⟩
    have hk1 : k < wr.heap.size := Nat.lt_of_lt_of_le hk h.bel.size
    exact (k1 k hk1 (by omega)).trans (hg.block k hk1 (fun e => by cases e; omega))
  · intro c' hc'
    rcases List.mem_cons.1 hc' with e | e
    · rw [e]; exact hc
    · exact h.sub c' e
  · intro c' hc'
    by_cases e : c' = c
    · exact .inl (by simp [e])
    · rcases h.all c' hc' with h1 | h1
      · exact .inl (List.mem_cons_of_mem _ h1)
      · exact .inr (by simp [same_int, h1]; omega)
  · have := h.len; omega
end Go.Proofs.Ytfhgidbmeifflaa
