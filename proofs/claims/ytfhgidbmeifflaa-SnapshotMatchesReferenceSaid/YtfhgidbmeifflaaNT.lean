/- PLAIN: operations on a shelf, what they keep. -/
import Derived.Test.YtfhgidbmeifflaaNS
set_option linter.unusedSimpArgs false
set_option linter.unusedVariables false
namespace Go.Proofs.Ytfhgidbmeifflaa
open Go.RowKit Go.Maps Go.ChangeMaps Go.MapKept Go.WideShapes Go.WideMaps

/-- what a shelf is after k operations -/
structure Inv (s : Sh) (k : Nat) : Prop where
  ord : ∀ t, Sn.Ord 0 (s.keys t)
  upto : ∀ t, ∀ v ∈ s.keys t, v.since ≤ s.clk
  rdc : ∀ i c, s.rd i = some c → c ≤ s.clk ∧ i ≤ s.opn
  ver : s.ver ≤ s.clk
  clk : s.clk ≤ k
  opn : s.opn ≤ k
  lim : s.lim ≤ 2 * k
  nrd : s.nrd ≤ 64
theorem Inv.sh {s : Sh} {k : Nat} (h : Inv s k) (hk : k ≤ 10000) : ShInv s :=
  ⟨h.ord, h.upto, h.rdc, h.ver, Nat.le_trans h.clk hk, Nat.le_trans h.opn hk, by have := h.lim; omega⟩
theorem Inv.mono {s : Sh} {k k' : Nat} (h : Inv s k) (hk : k ≤ k') : Inv s k' :=
  ⟨h.ord, h.upto, h.rdc, h.ver, Nat.le_trans h.clk hk, Nat.le_trans h.opn hk, by have := h.lim; omega, h.nrd⟩
theorem Inv.new : Inv newS 0 :=
  ⟨fun _ => trivial, by intro t v hv; simp [newS] at hv, by intro i c h; simp [newS] at h, Nat.zero_le _, Nat.zero_le _, Nat.zero_le _, Nat.zero_le _, Nat.zero_le _⟩
/-- a history with values at a new time behind it -/
theorem ord_new {l : List Sn.Val} {v : Sn.Val} {c : Nat} (h : Sn.Ord 0 l) (hu : ∀ x ∈ l, x.since ≤ c) (hv : v.since = c + 1) : Sn.Ord 0 (l ++ [v]) :=
  Sn.ord_snoc h (Nat.zero_le _) (fun x hx => by have := hu x hx; omega)
/-- of a key that is written or dropped: at most one new value, of a new time -/
theorem write_key (s : Sh) (ps : List (Tx × Tx)) (d : List Tx) (hno : d.any (fun t => (getP ps t).isSome) = false) (t : Tx) :
    putK (s.clk + 1) (dropK (s.clk + 1) s.keys d) ps (ps.map (·.1)) t = s.keys t ∨ ∃ v : Sn.Val, v.since = s.clk + 1 ∧ putK (s.clk + 1) (dropK (s.clk + 1) s.keys d) ps (ps.map (·.1)) t = s.keys t ++ [v] := by
  unfold putK
  by_cases ht : t ∈ ps.map (·.1)
  · rw [if_pos ht]
    have hd : t ∉ d := fun hd => by
      have h1 : (getP ps t).isSome = false := by
        have := List.any_eq_false.1 hno t hd
        simpa using this
      obtain ⟨q, hq, rfl⟩ := List.mem_map.1 ht
      have : ∀ {ps : List (Tx × Tx)}, q ∈ ps → (getP ps q.1).isSome = true := by
        intro ps
        induction ps with
        | nil => intro h; cases h
        | cons a l ih =>
          intro h
          rw [getP]
          split
          · rfl
          · rcases List.mem_cons.1 h with e | e
            · rename_i hne; exact absurd (by rw [e]) hne
            · exact ih e
      rw [this hq] at h1; cases h1
    exact .inr ⟨_, rfl, by unfold dropK; rw [if_neg hd]⟩
  · rw [if_neg ht]
    unfold dropK
    split
    · unfold dropV
      split
      · split
        · exact .inl rfl
        · exact .inr ⟨_, rfl, rfl⟩
      · exact .inl rfl
    · exact .inl rfl
theorem writeF_ok {s : Sh} {ps : List (Tx × Tx)} {d : List Tx} (h : (writeF s ps d).2.2 = 0) : d.any (fun t => (getP ps t).isSome) = false ∧ (longD d || longP ps) = false ∧
    writeF s ps d = ({ s with ver := s.ver + 1, clk := s.clk + 1, keys := putK (s.clk + 1) (dropK (s.clk + 1) s.keys d) ps (ps.map (·.1)), lim := s.lim + ps.length }, s.ver + 1, 0) := by
  unfold writeF at h ⊢
  split
  · rename_i h1; rw [if_pos h1] at h; cases h
  · rename_i h1
    rw [if_neg h1] at h
    split
    · rename_i h2; rw [if_pos h2] at h; cases h
    · rename_i h2; exact ⟨by simpa using h1, by simpa using h2, rfl⟩
theorem writeF_err {s : Sh} {ps : List (Tx × Tx)} {d : List Tx} (h : (writeF s ps d).2.2 ≠ 0) : (writeF s ps d).1 = s := by
  unfold writeF at h ⊢
  split
  · rfl
  · split
    · rfl
    · rename_i h1 h2; rw [if_neg h1, if_neg h2] at h; exact absurd rfl h
theorem Inv.write {s : Sh} {k : Nat} (h : Inv s k) (ps : List (Tx × Tx)) (d : List Tx) (hl : ps.length ≤ 2) : Inv (writeF s ps d).1 (k + 1) := by
  by_cases he : (writeF s ps d).2.2 = 0
  · obtain ⟨h1, h2, h3⟩ := writeF_ok he
    rw [h3]
    refine ⟨fun t => ?_, fun t v hv => ?_, fun i c hi => ?_, by have := h.ver; show s.ver + 1 ≤ s.clk + 1; omega, by have := h.clk; show s.clk + 1 ≤ k + 1; omega, by have := h.opn; show s.opn ≤ k + 1; omega, by have := h.lim; show s.lim + ps.length ≤ 2 * (k + 1); omega, h.nrd⟩
    · show Sn.Ord 0 (putK _ _ _ _ t)
      rcases write_key s ps d h1 t with e | ⟨v, e1, e⟩
      · rw [e]; exact h.ord t
      · rw [e]; exact ord_new (h.ord t) (h.upto t) e1
    · have hv : v ∈ putK (s.clk + 1) (dropK (s.clk + 1) s.keys d) ps (ps.map (·.1)) t := hv
      show v.since ≤ s.clk + 1
      rcases write_key s ps d h1 t with e | ⟨v', e1, e⟩
      · rw [e] at hv; have := h.upto t v hv; omega
      · rw [e] at hv
        rcases List.mem_append.1 hv with hv | hv
        · have := h.upto t v hv; omega
        · rw [List.mem_singleton.1 hv]; omega
    · have := h.rdc i c hi; exact ⟨by show c ≤ s.clk + 1; omega, this.2⟩
  · rw [writeF_err he]; exact h.mono (by omega)
theorem Inv.open_ {s : Sh} {k : Nat} (h : Inv s k) : Inv (openF s).1 (k + 1) := by
  unfold openF
  split
  · exact h.mono (by omega)
  · rename_i hn
    refine ⟨h.ord, h.upto, fun i c hi => ?_, h.ver, by have := h.clk; show s.clk ≤ k + 1; omega, by have := h.opn; show s.opn + 1 ≤ k + 1; omega, by have := h.lim; show s.lim ≤ 2 * (k + 1); omega, by have := h.nrd; show s.nrd + 1 ≤ 64; omega⟩
    have hi : setN s.rd (s.opn + 1) (some s.clk) i = some c := hi
    unfold setN at hi
    split at hi
    · rename_i e; cases hi; exact ⟨Nat.le_refl _, by show i ≤ s.opn + 1; omega⟩
    · have := h.rdc i c hi; exact ⟨this.1, by show i ≤ s.opn + 1; omega⟩
theorem Inv.close {s : Sh} {k : Nat} (h : Inv s k) (r : Nat) : Inv (closeF s r).1 k := by
  unfold closeF
  split
  · exact h
  · refine ⟨h.ord, h.upto, fun i c hi => ?_, h.ver, h.clk, h.opn, h.lim, by have := h.nrd; show s.nrd - 1 ≤ 64; omega⟩
    have hi : setN s.rd r none i = some c := hi
    unfold setN at hi
    split at hi
    · cases hi
    · exact h.rdc i c hi
theorem Inv.collect {s : Sh} {k : Nat} (h : Inv s k) (ts : List Nat) : Inv (collectF s ts) k :=
  ⟨fun t => Sn.ord_sub (Sn.colls_sub _ _) (h.ord t), fun t v hv => h.upto t v ((Sn.colls_sub _ _).subset hv), h.rdc, h.ver, h.clk, h.opn, h.lim, h.nrd⟩
theorem Inv.forget {s : Sh} {k : Nat} (h : Inv s k) (t : Tx) : Inv (forgetF s t).1 (k + 1) := by
  unfold forgetF
  split
  · have hm : Sn.Ord 0 ((s.keys t).map Sn.fgt) := Sn.ord_map Sn.fgt_since (h.ord t)
    have hu : ∀ v ∈ (s.keys t).map Sn.fgt, v.since ≤ s.clk := fun v hv => by
      obtain ⟨x, hx, rfl⟩ := List.mem_map.1 hv
      rw [Sn.fgt_since]; exact h.upto t x hx
    refine ⟨fun u => ?_, fun u v hv => ?_, fun i c hi => ?_, by have := h.ver; show s.ver ≤ s.clk + 1; omega, by have := h.clk; show s.clk + 1 ≤ k + 1; omega, by have := h.opn; show s.opn ≤ k + 1; omega, by have := h.lim; show s.lim ≤ 2 * (k + 1); omega, h.nrd⟩
    · show Sn.Ord 0 (setK s.keys t _ u)
      unfold setK
      split
      · exact ord_new hm hu rfl
      · exact h.ord u
    · have hv : v ∈ setK s.keys t ((s.keys t).map Sn.fgt ++ [⟨s.clk + 1, [], true, false⟩]) u := hv
      show v.since ≤ s.clk + 1
      unfold setK at hv
      split at hv
      · rcases List.mem_append.1 hv with hv | hv
        · have := hu v hv; omega
        · rw [List.mem_singleton.1 hv]; exact Nat.le_refl _
      · have := h.upto u v hv; omega
    · have := h.rdc i c hi; exact ⟨by show c ≤ s.clk + 1; omega, this.2⟩
  · exact h.mono (by omega)
/-- an operation -/
structure OpV where
  kind : Nat
  key : Tx
  value : Tx
  other : Tx
  second : Tx
  n : Nat
/-- the pairs that an operation writes -/
def OpV.put (o : OpV) : List (Tx × Tx) := if o.kind % 6 = 0 ∧ o.other ≠ [] ∧ o.other ≠ o.key then [(o.key, o.value), (o.other, o.second)] else [(o.key, o.value)]
theorem OpV.put_len (o : OpV) : o.put.length ≤ 2 := by unfold OpV.put; split <;> simp
theorem OpV.put_nd (o : OpV) : (o.put.map (·.1)).Nodup := by
  unfold OpV.put
  split
  · rename_i h; simp; exact fun e => h.2.2 e.symm
  · simp
open Classical in
/-- the times that count, chosen -/
noncomputable def timesOf (s : Sh) : List Nat := if h : ∃ ts, TimesOf s ts then Classical.choose h else []
open Classical in
/-- how many values are held, chosen -/
noncomputable def heldN (f : Tx → List Sn.Val) : Nat := if h : ∃ n, Sn.HeldIs f n then Classical.choose h else 0
theorem heldN_eq {f : Tx → List Sn.Val} {n : Nat} (h : Sn.HeldIs f n) : heldN f = n := by
  have hx : ∃ n, Sn.HeldIs f n := ⟨n, h⟩
  unfold heldN
  rw [dif_pos hx]
  exact Sn.held_unique (Classical.choose_spec hx) h
theorem colls_same {ts ts' : List Nat} (h : ∀ c, c ∈ ts ↔ c ∈ ts') (l : List Sn.Val) : Sn.colls l ts = Sn.colls l ts' := by
  unfold Sn.colls
  have : Sn.needB l ts = Sn.needB l ts' := by
    funext i
    unfold Sn.needB
    rw [Bool.eq_iff_iff, List.any_eq_true, List.any_eq_true]
    exact ⟨fun ⟨c, hc, e⟩ => ⟨c, (h c).1 hc, e⟩, fun ⟨c, hc, e⟩ => ⟨c, (h c).2 hc, e⟩⟩
  rw [this]
theorem times_eq {s : Sh} {ts : List Nat} (h : TimesOf s ts) : collectF s ts = collectF s (timesOf s) ∧ TimesOf s (timesOf s) := by
  have hx : ∃ ts, TimesOf s ts := ⟨ts, h⟩
  have h' : TimesOf s (timesOf s) := by unfold timesOf; rw [dif_pos hx]; exact Classical.choose_spec hx
  refine ⟨?_, h'⟩
  have : ∀ c, c ∈ ts ↔ c ∈ timesOf s := fun c => by
    have key : ∀ {a b : List Nat}, TimesOf s a → TimesOf s b → c ∈ a → c ∈ b := fun ha hb hc => by
      rcases ha.sub c hc with e | ⟨i, e⟩
      · rw [e]; exact hb.ck
      · exact hb.all i c e
    exact ⟨key h h', key h' h⟩
  unfold collectF
  congr 1
  funext t
  exact colls_same this _
/-- an operation's work -/
noncomputable def doF (s : Sh) (o : OpV) : Sh × Int × Nat :=
  if o.kind % 6 = 0 then ((writeF s o.put []).1, ((writeF s o.put []).2.1 : Int), (writeF s o.put []).2.2)
  else if o.kind % 6 = 1 then ((writeF s o.put [o.other]).1, ((writeF s o.put [o.other]).2.1 : Int), (writeF s o.put [o.other]).2.2)
  else if o.kind % 6 = 2 then ((openF s).1, ((openF s).2.1 : Int), (openF s).2.2)
  else if o.kind % 6 = 3 then ((closeF s o.n).1, 0, (closeF s o.n).2)
  else if o.kind % 6 = 4 then (collectF s (timesOf s), (heldN s.keys : Int) - (heldN (collectF s (timesOf s)).keys : Int), 0)
  else ((forgetF s o.key).1, 0, (forgetF s o.key).2)
theorem doF_inv {s : Sh} {k : Nat} (h : Inv s k) (o : OpV) : Inv (doF s o).1 (k + 1) := by
  unfold doF
  split
  · exact h.write _ _ o.put_len
  split
  · exact h.write _ _ o.put_len
  split
  · exact h.open_
  split
  · exact (h.close _).mono (by omega)
  split
  · exact (h.collect _).mono (by omega)
  · exact h.forget _
end Go.Proofs.Ytfhgidbmeifflaa
