/- PLAIN LAWS OF SHELVES: what a key's history says at a time, forgetting, collecting. No program is spoken of here. -/
import Derived.Lib.Hide
set_option linter.unusedSimpArgs false
set_option linter.unusedVariables false
namespace Go.Proofs.Ytfhgidbmeifflaa.Sn
abbrev T := List UInt8
/-- what a key has from a time on -/
structure Val where
  since : Nat
  text : T
  gone : Bool
  forgot : Bool
/-- a history in order, up to a time -/
def Ord : Nat → List Val → Prop
  | _, [] => True
  | lo, v :: l => lo ≤ v.since ∧ Ord (v.since + 1) l
def Upto (c : Nat) (l : List Val) : Prop := ∀ v ∈ l, v.since ≤ c
theorem ord_mono {lo lo' : Nat} {l : List Val} (h : Ord lo l) (hl : lo' ≤ lo) : Ord lo' l := by
  cases l with
  | nil => trivial
  | cons v l => exact ⟨Nat.le_trans hl h.1, h.2⟩
theorem ord_mem {lo : Nat} {l : List Val} (h : Ord lo l) : ∀ v ∈ l, lo ≤ v.since := by
  induction l generalizing lo with
  | nil => intro v hv; cases hv
  | cons a l ih =>
    intro v hv
    rcases List.mem_cons.1 hv with e | e
    · rw [e]; exact h.1
    · exact Nat.le_trans (Nat.le_succ_of_le h.1) (ih h.2 v e)
theorem ord_snoc {lo : Nat} {l : List Val} {v : Val} (h : Ord lo l) (hl : lo ≤ v.since) (hv : ∀ x ∈ l, x.since < v.since) : Ord lo (l ++ [v]) := by
  induction l generalizing lo with
  | nil => exact ⟨hl, trivial⟩
  | cons a l ih => exact ⟨h.1, ih h.2 (hv a (by simp)) (fun x hx => hv x (by simp [hx]))⟩
theorem ord_get {lo : Nat} : ∀ {l : List Val}, Ord lo l → ∀ {i k : Nat} (hi : i < l.length) (hk : k < l.length), i < k → l[i].since < l[k].since
  | [], _, i, k, hi, _, _ => by simp at hi
  | a :: l, h, 0, k + 1, _, hk, _ => by
    have := ord_mem h.2 (l[k]'(by simpa using hk)) (List.getElem_mem _)
    simp only [List.getElem_cons_zero, List.getElem_cons_succ]
    omega
  | a :: l, h, i + 1, k + 1, hi, hk, hik => by
    have := ord_get h.2 (i := i) (k := k) (by simpa using hi) (by simpa using hk) (by omega)
    simpa using this
theorem ord_sub {lo : Nat} {l m : List Val} (hs : m.Sublist l) (h : Ord lo l) : Ord lo m := by
  induction hs generalizing lo with
  | slnil => trivial
  | cons a _ ih => exact ih (ord_mono h.2 (Nat.le_succ_of_le h.1))
  | cons_cons a _ ih => exact ⟨h.1, ih h.2⟩
/-- how many values count at a time (they stand in front) -/
def cntAt (l : List Val) (c : Nat) : Nat := (l.filter fun v => decide (v.since ≤ c)).length
theorem cntAt_le (l : List Val) (c : Nat) : cntAt l c ≤ l.length := List.length_filter_le _ _
theorem cntAt_split {lo : Nat} : ∀ {l : List Val}, Ord lo l → ∀ (c i : Nat) (hi : i < l.length), l[i].since ≤ c ↔ i < cntAt l c
  | [], _, _, i, hi => by simp at hi
  | a :: l, h, c, i, hi => by
    unfold cntAt
    by_cases ha : a.since ≤ c
    · rw [List.filter_cons_of_pos (by simpa using ha), List.length_cons]
      cases i with
      | zero => simp [ha]
      | succ i =>
        have := cntAt_split h.2 c i (by simpa using hi)
        unfold cntAt at this
        simp only [List.getElem_cons_succ]
        omega
    · rw [List.filter_cons_of_neg (by simpa using ha)]
      have hz : (l.filter fun v => decide (v.since ≤ c)) = [] := by
        rw [List.filter_eq_nil_iff]
        intro v hv
        have := ord_mem h.2 v hv
        simp; omega
      rw [hz]
      constructor
      · intro hle
        cases i with
        | zero => exact absurd hle ha
        | succ i =>
          have h1 := ord_mem h.2 (l[i]'(by simpa using hi)) (List.getElem_mem _)
          simp only [List.getElem_cons_succ] at hle
          omega
      · intro hlt; simp at hlt
/-- the value that counts at a time -/
def cur (l : List Val) (c : Nat) : Option Val := (l.filter fun v => decide (v.since ≤ c)).getLast?
theorem filter_take {lo : Nat} {l : List Val} (h : Ord lo l) (c : Nat) : (l.filter fun v => decide (v.since ≤ c)) = l.take (cntAt l c) := by
  induction l generalizing lo with
  | nil => rfl
  | cons a l ih =>
    unfold cntAt
    by_cases ha : a.since ≤ c
    · rw [List.filter_cons_of_pos (by simpa using ha), List.length_cons, List.take_succ_cons]
      congr 1
      exact ih h.2
    · have hz : (l.filter fun v => decide (v.since ≤ c)) = [] := by
        rw [List.filter_eq_nil_iff]
        intro v hv
        have := ord_mem h.2 v hv
        simp; omega
      rw [List.filter_cons_of_neg (by simpa using ha), hz]; rfl
theorem cur_get {lo : Nat} {l : List Val} (h : Ord lo l) (c : Nat) (hp : 0 < cntAt l c) : ∃ hi : cntAt l c - 1 < l.length, cur l c = some l[cntAt l c - 1] := by
  have hle := cntAt_le l c
  refine ⟨by omega, ?_⟩
  unfold cur
  rw [filter_take h, List.getLast?_eq_getElem?, List.length_take, Nat.min_eq_left hle, List.getElem?_take_of_lt (by omega), List.getElem?_eq_getElem (by omega)]
theorem cur_none {l : List Val} {c : Nat} (hp : cntAt l c = 0) : cur l c = none := by
  unfold cur
  rw [List.eq_nil_of_length_eq_zero hp]; rfl
/-- what is read: 0 the text, 11 none, 24 gone -/
def rdv (o : Option Val) : T × Nat :=
  match o with
  | none => ([], 11)
  | some v => if v.gone && !v.forgot then ([], 11) else if v.forgot then ([], 24) else (v.text, 0)
theorem cur_snoc_new {l : List Val} {v : Val} {c : Nat} (h : c < v.since) : cur (l ++ [v]) c = cur l c := by
  unfold cur
  rw [List.filter_append, List.filter_cons_of_neg (by simp; omega)]; simp
theorem cur_snoc_old {l : List Val} {v : Val} {c : Nat} (h : v.since ≤ c) : cur (l ++ [v]) c = some v := by
  unfold cur
  rw [List.filter_append, List.filter_cons_of_pos (by simpa using h)]; simp
/-- a map that leaves the times alone -/
theorem cur_map {l : List Val} {g : Val → Val} (hg : ∀ v, (g v).since = v.since) (c : Nat) : cur (l.map g) c = (cur l c).map g := by
  unfold cur
  have : ((l.map g).filter fun v => decide (v.since ≤ c)) = (l.filter fun v => decide (v.since ≤ c)).map g := by
    rw [List.filter_map]
    congr 1
    exact List.filter_congr fun v _ => by simp [hg]
  rw [this, List.getLast?_map]
theorem ord_map {lo : Nat} {l : List Val} {g : Val → Val} (hg : ∀ v, (g v).since = v.since) (h : Ord lo l) : Ord lo (l.map g) := by
  induction l generalizing lo with
  | nil => trivial
  | cons a l ih => exact ⟨by rw [hg]; exact h.1, by rw [hg]; exact ih h.2⟩
/-- a value that is forgotten -/
def fgt (v : Val) : Val := if v.gone then v else ⟨v.since, [], true, true⟩
theorem fgt_since (v : Val) : (fgt v).since = v.since := by unfold fgt; split <;> rfl
theorem fgt_gone (v : Val) : (fgt v).gone = true := by
  unfold fgt
  cases h : v.gone
  · simp
  · simp [h]
/-! ### collecting: what a set of times shows -/
/-- the places that are needed: those that count at one of the times -/
def needB (l : List Val) (ts : List Nat) (i : Nat) : Bool := ts.any fun t => decide (cntAt l t = i + 1)
/-- the values at the needed places -/
def coll (l : List Val) (ts : List Nat) : List Val := ((List.range l.length).filter (needB l ts)).filterMap fun i => l[i]?
def collFrom (p : Nat → Bool) : Nat → List Val → List Val
  | _, [] => []
  | i, v :: l => if p i then v :: collFrom p (i + 1) l else collFrom p (i + 1) l
theorem collFrom_sub (p : Nat → Bool) : ∀ (i : Nat) (l : List Val), (collFrom p i l).Sublist l
  | _, [] => List.Sublist.slnil
  | i, v :: l => by
    rw [collFrom]
    split
    · exact (collFrom_sub p (i + 1) l).cons_cons v
    · exact (collFrom_sub p (i + 1) l).cons v
def colls (l : List Val) (ts : List Nat) : List Val := collFrom (needB l ts) 0 l
theorem colls_sub (l : List Val) (ts : List Nat) : (colls l ts).Sublist l := collFrom_sub _ 0 l
theorem collFrom_mem (p : Nat → Bool) : ∀ (i : Nat) (l : List Val) (x : Val), x ∈ collFrom p i l ↔ ∃ k, ∃ h : k < l.length, p (i + k) = true ∧ l[k] = x
  | _, [], x => by simp [collFrom]
  | i, v :: l, x => by
    rw [collFrom]
    constructor
    · intro hx
      have key : x ∈ collFrom p (i + 1) l → ∃ k, ∃ h : k < (v :: l).length, p (i + k) = true ∧ (v :: l)[k] = x := fun hm => by
        obtain ⟨k, hk, h1, h2⟩ := (collFrom_mem p (i + 1) l x).1 hm
        exact ⟨k + 1, by simpa using hk, by rw [show i + (k + 1) = i + 1 + k by omega]; exact h1, by simpa using h2⟩
      split at hx
      · rename_i hp
        rcases List.mem_cons.1 hx with e | e
        · exact ⟨0, by simp, by simpa using hp, by simp [e]⟩
        · exact key e
      · exact key hx
    · rintro ⟨k, hk, h1, h2⟩
      cases k with
      | zero =>
        rw [if_pos (by simpa using h1)]
        simp at h2
        simp [h2]
      | succ k =>
        have : x ∈ collFrom p (i + 1) l := (collFrom_mem p (i + 1) l x).2 ⟨k, by simpa using hk, by rw [show i + 1 + k = i + (k + 1) by omega]; exact h1, by simpa using h2⟩
        split
        · exact List.mem_cons_of_mem _ this
        · exact this
/-- of a sublist of an ordered list that has what counts at a time: it is what counts there too -/
theorem getLast_sub {lo : Nat} {l m : List Val} (h : Ord lo l) (hs : m.Sublist l) {c : Nat} {v : Val} (hv : cur l c = some v) (hm : v ∈ m) : cur m c = some v := by
  have hvc : v.since ≤ c := by
    unfold cur at hv
    have := List.mem_of_getLast? hv
    simpa using (List.mem_filter.1 this).2
  have hmax : ∀ x ∈ l, x.since ≤ c → x.since ≤ v.since := by
    intro x hx hxc
    obtain ⟨i, hi, rfl⟩ := List.mem_iff_getElem.1 hx
    have hp : 0 < cntAt l c := by
      rcases Nat.eq_zero_or_pos (cntAt l c) with h0 | h0
      · rw [cur_none h0] at hv; cases hv
      · exact h0
    obtain ⟨hk, e⟩ := cur_get h c hp
    rw [e] at hv
    cases hv
    have h1 := (cntAt_split h c i hi).1 hxc
    rcases Nat.lt_or_ge i (cntAt l c - 1) with h2 | h2
    · exact Nat.le_of_lt (ord_get h hi hk h2)
    · have : i = cntAt l c - 1 := by omega
      subst this; exact Nat.le_refl _
  have hmo := ord_sub hs h
  have hvm : v ∈ m.filter fun v => decide (v.since ≤ c) := List.mem_filter.2 ⟨hm, by simpa using hvc⟩
  have hp : 0 < cntAt m c := List.length_pos_of_mem hvm
  obtain ⟨hk, e⟩ := cur_get hmo c hp
  rw [e]
  obtain ⟨i, hi, rfl⟩ := List.mem_iff_getElem.1 hm
  have h1 := (cntAt_split hmo c i hi).1 hvc
  rcases Nat.lt_or_ge i (cntAt m c - 1) with h2 | h2
  · have h3 := ord_get hmo hi hk h2
    have h4 := hmax _ (hs.subset (List.getElem_mem hk)) ((cntAt_split hmo c _ hk).2 (by omega))
    omega
  · have : i = cntAt m c - 1 := by omega
    subst this; rfl
theorem cur_colls {lo : Nat} {l : List Val} {ts : List Nat} (h : Ord lo l) {t : Nat} (ht : t ∈ ts) : cur (colls l ts) t = cur l t := by
  rcases Nat.eq_zero_or_pos (cntAt l t) with h0 | h0
  · rw [cur_none h0]
    unfold cur
    rw [show ((colls l ts).filter fun v => decide (v.since ≤ t)) = [] from ?_]
    · rfl
    · rw [List.filter_eq_nil_iff]
      intro v hv hle
      have : v ∈ l.filter fun v => decide (v.since ≤ t) := List.mem_filter.2 ⟨(colls_sub l ts).subset hv, hle⟩
      have hl := List.length_pos_of_mem this
      unfold cntAt at h0; omega
  · obtain ⟨hk, e⟩ := cur_get h t h0
    rw [e]
    refine getLast_sub h (colls_sub l ts) e ?_
    unfold colls
    rw [collFrom_mem]
    refine ⟨cntAt l t - 1, hk, ?_, rfl⟩
    unfold needB
    rw [List.any_eq_true]
    exact ⟨t, ht, by simp; omega⟩
/-- each value that is left counts at one of the times -/
theorem mem_colls {lo : Nat} {l : List Val} {ts : List Nat} (h : Ord lo l) {v : Val} (hv : v ∈ colls l ts) : ∃ t ∈ ts, cur l t = some v := by
  unfold colls at hv
  obtain ⟨k, hk, h1, h2⟩ := (collFrom_mem _ 0 l v).1 hv
  rw [Nat.zero_add] at h1
  unfold needB at h1
  rw [List.any_eq_true] at h1
  obtain ⟨t, ht, e⟩ := h1
  have e : cntAt l t = k + 1 := by simpa using e
  obtain ⟨hk', e'⟩ := cur_get h t (by omega)
  refine ⟨t, ht, ?_⟩
  rw [e', ← h2]
  congr 1
  simp [e]
theorem collFrom_all {p : Nat → Bool} : ∀ (i : Nat) (l : List Val), (∀ k, k < l.length → p (i + k) = true) → collFrom p i l = l
  | _, [], _ => rfl
  | i, v :: l, h => by
    rw [collFrom, if_pos (by simpa using h 0 (by simp)), collFrom_all (i + 1) l (fun k hk => by rw [show i + 1 + k = i + (k + 1) by omega]; exact h (k + 1) (by simpa using hk))]
/-- collecting again changes nothing -/
theorem colls_twice {lo : Nat} {l : List Val} {ts : List Nat} (h : Ord lo l) : colls (colls l ts) ts = colls l ts := by
  have ho := ord_sub (colls_sub l ts) h
  show collFrom (needB (colls l ts) ts) 0 (colls l ts) = colls l ts
  refine collFrom_all 0 _ fun k hk => ?_
  rw [Nat.zero_add]
  obtain ⟨t, ht, e⟩ := mem_colls h (List.getElem_mem hk)
  unfold needB
  rw [List.any_eq_true]
  refine ⟨t, ht, ?_⟩
  have e2 := (cur_colls h ht).trans e
  have hp : 0 < cntAt (colls l ts) t := by
    rcases Nat.eq_zero_or_pos (cntAt (colls l ts) t) with h0 | h0
    · rw [cur_none h0] at e2; cases e2
    · exact h0
  obtain ⟨hk', e3⟩ := cur_get ho t hp
  rw [e3] at e2
  have e2 := Option.some.inj e2
  have : cntAt (colls l ts) t - 1 = k := by
    rcases Nat.lt_trichotomy (cntAt (colls l ts) t - 1) k with h1 | h1 | h1
    · have := ord_get ho hk' hk h1; rw [e2] at this; omega
    · exact h1
    · have := ord_get ho hk hk' h1; rw [e2] at this; omega
  simp; omega
/-- one time alone leaves at most what counts there -/
theorem colls_one {lo : Nat} {l : List Val} (h : Ord lo l) (t : Nat) : colls l [t] = (cur l t).toList := by
  have ho := ord_sub (colls_sub l [t]) h
  have hall : ∀ v ∈ colls l [t], cur l t = some v := fun v hv => by
    obtain ⟨t', ht', e⟩ := mem_colls h hv
    rw [List.mem_singleton.1 ht'] at e; exact e
  cases hc : cur l t with
  | none =>
    cases hl : colls l [t] with
    | nil => rfl
    | cons a m => have := hall a (by rw [hl]; simp); rw [hc] at this; cases this
  | some v =>
    have h1 := (cur_colls (ts := [t]) h (List.mem_singleton.2 rfl)).trans hc
    cases hl : colls l [t] with
    | nil => rw [hl] at h1; simp [cur] at h1
    | cons a m =>
      have ha := hall a (by rw [hl]; simp)
      rw [hc] at ha
      cases ha
      cases m with
      | nil => rfl
      | cons b m =>
        have hb := hall b (by rw [hl]; simp)
        rw [hc] at hb
        cases hb
        rw [hl] at ho
        have := ho.2.1
        omega
/-! ### how many values are kept -/
def cnt (l : List Val) : Nat := (l.filter fun v => !v.gone).length
def sumK (f : T → List Val) (ks : List T) : Nat := (ks.map fun k => cnt (f k)).sum
/-- n values are kept -/
def HeldIs (f : T → List Val) (n : Nat) : Prop := ∃ ks : List T, ks.Nodup ∧ (∀ k, f k ≠ [] → k ∈ ks) ∧ n = sumK f ks
theorem sumK_filter (f : T → List Val) : ∀ ks : List T, sumK f ks = sumK f (ks.filter fun k => !(f k).isEmpty)
  | [] => rfl
  | k :: ks => by
    have ih := sumK_filter f ks
    unfold sumK at ih ⊢
    by_cases h : (f k).isEmpty = true
    · rw [List.filter_cons_of_neg (by simp [h]), List.map_cons, List.sum_cons, ih]
      have : f k = [] := by simpa using h
      rw [this]; simp [cnt]
    · rw [List.filter_cons_of_pos (by simpa using h), List.map_cons, List.sum_cons, List.map_cons, List.sum_cons, ih]
theorem sumK_perm (f : T → List Val) {a b : List T} (h : a.Perm b) : sumK f a = sumK f b := by
  unfold sumK; exact (h.map _).sum_nat
theorem held_unique {f : T → List Val} {n m : Nat} (h : HeldIs f n) (h' : HeldIs f m) : n = m := by
  obtain ⟨ks, d1, c1, rfl⟩ := h
  obtain ⟨js, d2, c2, rfl⟩ := h'
  rw [sumK_filter f ks, sumK_filter f js]
  refine sumK_perm f ((List.perm_ext_iff_of_nodup (d1.filter _) (d2.filter _)).2 fun k => ?_)
  rw [List.mem_filter, List.mem_filter]
  constructor
  · rintro ⟨_, h⟩
    exact ⟨c2 k (by simpa using h), h⟩
  · rintro ⟨_, h⟩
    exact ⟨c1 k (by simpa using h), h⟩
end Go.Proofs.Ytfhgidbmeifflaa.Sn
