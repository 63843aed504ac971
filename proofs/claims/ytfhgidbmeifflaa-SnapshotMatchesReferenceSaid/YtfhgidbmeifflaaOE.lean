/- PLAIN: what SnapshotCollects says. -/
import Derived.Test.YtfhgidbmeifflaaOA
set_option linter.unusedSimpArgs false
set_option linter.unusedVariables false
namespace Go.Proofs.Ytfhgidbmeifflaa
open Go.RowKit Go.Maps Go.ChangeMaps Go.MapKept Go.WideShapes Go.WideMaps

/-- what is forgotten has nothing; nobody is reader 0 -/
structure FG (s : Sh) : Prop where
  fg : ∀ u, ∀ v ∈ s.keys u, v.forgot = true → v.gone = true
  r0 : s.rd 0 = none
theorem FG.new : FG newS := ⟨fun u v hv => (by cases hv), rfl⟩
theorem FG.write {s : Sh} (h : FG s) (ps : List (Tx × Tx)) (d : List Tx) : FG (writeF s ps d).1 := by
  refine ⟨fun u v hv hg => ?_, by rw [(writeF_rd s ps d).1]; exact h.r0⟩
  unfold writeF at hv
  split at hv
  · exact h.fg u v hv hg
  split at hv
  · exact h.fg u v hv hg
  · have hv : v ∈ putK (s.clk + 1) (dropK (s.clk + 1) s.keys d) ps (ps.map (·.1)) u := hv
    have hd : v ∈ dropK (s.clk + 1) s.keys d u → v.gone = true := fun hv => by
      unfold dropK at hv
      split at hv
      · unfold dropV at hv
        split at hv
        · split at hv
          · exact h.fg u v hv hg
          · rcases List.mem_append.1 hv with h1 | h1
            · exact h.fg u v h1 hg
            · rw [List.mem_singleton.1 h1]
        · exact h.fg u v hv hg
      · exact h.fg u v hv hg
    unfold putK at hv
    split at hv
    · rcases List.mem_append.1 hv with h1 | h1
      · exact hd h1
      · rw [List.mem_singleton.1 h1] at hg; cases hg
    · exact hd hv
theorem FG.open_ {s : Sh} (h : FG s) : FG (openF s).1 :=
  ⟨fun u v hv hg => h.fg u v (by rw [(openF_keys s).1] at hv; exact hv) hg, by rw [openF_old (Nat.zero_le _)]; exact h.r0⟩
theorem FG.collect {s : Sh} (h : FG s) (ts : List Nat) : FG (collectF s ts) := ⟨fun u v hv hg => h.fg u v ((Sn.colls_sub _ _).subset hv) hg, h.r0⟩
theorem FG.step {s : Sh} (h : FG s) (o : OpV) : FG (doF s o).1 := by
  unfold doF
  split
  · exact h.write _ _
  split
  · exact h.write _ _
  split
  · exact h.open_
  split
  · show FG (closeF s o.n).1
    unfold closeF
    split
    · exact h
    · refine ⟨h.fg, ?_⟩
      show setN s.rd o.n none 0 = none
      unfold setN
      split
      · rfl
      · exact h.r0
  split
  · exact h.collect _
  · show FG (forgetF s o.key).1
    refine ⟨fun u v hv hg => ?_, by rw [(forgetF_rd s o.key).1]; exact h.r0⟩
    unfold forgetF at hv
    split at hv
    · have hv : v ∈ setK s.keys o.key ((s.keys o.key).map Sn.fgt ++ [⟨s.clk + 1, [], true, false⟩]) u := hv
      unfold setK at hv
      split at hv
      · rcases List.mem_append.1 hv with h1 | h1
        · obtain ⟨x, hx, rfl⟩ := List.mem_map.1 h1
          exact Sn.fgt_gone x
        · rw [List.mem_singleton.1 h1]
      · exact h.fg u v hv hg
    · exact h.fg u v hv hg
/-- the keys that a shelf may have -/
def Supp (s : Sh) (K : List Tx) : Prop := ∀ u, s.keys u ≠ [] → u ∈ K
theorem Supp.new : Supp newS [] := fun u hu => absurd rfl hu
theorem supp_write {s : Sh} {K : List Tx} (h : Supp s K) (o : OpV) (d : List Tx) (hd : ∀ t ∈ d, t = o.other) : Supp (writeF s o.put d).1 (K ++ [o.key, o.other]) := by
  intro u hu
  have base : s.keys u ≠ [] → u ∈ K ++ [o.key, o.other] := fun e => List.mem_append.2 (.inl (h u e))
  unfold writeF at hu
  split at hu
  · exact base hu
  split at hu
  · exact base hu
  · have hu : putK (s.clk + 1) (dropK (s.clk + 1) s.keys d) o.put (o.put.map (·.1)) u ≠ [] := hu
    unfold putK at hu
    split at hu
    · rename_i hm
      obtain ⟨q, hq, rfl⟩ := List.mem_map.1 hm
      unfold OpV.put at hq
      split at hq
      · rcases List.mem_cons.1 hq with rfl | hq
        · simp
        · rw [List.mem_singleton.1 hq]; simp
      · rw [List.mem_singleton.1 hq]; simp
    · unfold dropK at hu
      split at hu
      · rename_i hm; rw [hd u hm]; simp
      · exact base hu
theorem supp_step {s : Sh} {K : List Tx} (h : Supp s K) (o : OpV) : Supp (doF s o).1 (K ++ [o.key, o.other]) := by
  have base : ∀ {t : Sh}, t.keys = s.keys → Supp t (K ++ [o.key, o.other]) := fun e u hu => List.mem_append.2 (.inl (h u (by rw [e] at hu; exact hu)))
  unfold doF
  split
  · exact supp_write h o [] (fun t ht => by cases ht)
  split
  · exact supp_write h o [o.other] (fun t ht => List.mem_singleton.1 ht)
  split
  · exact base (openF_keys s).1
  split
  · refine base ?_
    show (closeF s o.n).1.keys = s.keys
    unfold closeF
    split <;> rfl
  split
  · intro u hu
    refine List.mem_append.2 (.inl (h u (fun e => hu ?_)))
    show Sn.colls (s.keys u) _ = []
    rw [e]; rfl
  · intro u hu
    have hu : (forgetF s o.key).1.keys u ≠ [] := hu
    unfold forgetF at hu
    split at hu
    · have hu : setK s.keys o.key ((s.keys o.key).map Sn.fgt ++ [⟨s.clk + 1, [], true, false⟩]) u ≠ [] := hu
      unfold setK at hu
      split at hu
      · rename_i e; rw [e]; simp
      · exact List.mem_append.2 (.inl (h u hu))
    · exact List.mem_append.2 (.inl (h u hu))
def opK (l : List OpV) : List Tx := l.flatMap fun o => [o.key, o.other]
theorem opK_take (l : List OpV) {k : Nat} (h : k < l.length) : opK (l.take (k + 1)) = opK (l.take k) ++ [l[k].key, l[k].other] := by
  unfold opK
  rw [List.take_succ_eq_append_getElem h, List.flatMap_append]
  simp
theorem opK_len (l : List OpV) : (opK l).length = l.length * 2 := by
  induction l with
  | nil => rfl
  | cons o l ih =>
    show ([o.key, o.other] ++ opK l).length = _
    rw [List.length_append, ih]
    show 2 + l.length * 2 = (l.length + 1) * 2
    omega
theorem opK_le {l : List OpV} (h : ∀ o ∈ l, okOp o = true) : ∀ t ∈ opK l, t.length ≤ 300 := by
  intro t ht
  obtain ⟨o, ho, hm⟩ := List.mem_flatMap.1 ht
  have hk : o.key.length ≤ 300 ∧ o.other.length ≤ 300 := by have := h o ho; unfold okOp at this; simp at this; omega
  rcases List.mem_cons.1 hm with rfl | hm
  · exact hk.1
  · rw [List.mem_singleton.1 hm]; exact hk.2
theorem openF_fresh (s : Sh) : ((openF s).2.2 = 0 ∧ (openF s).2.1 = s.opn + 1 ∧ (openF s).1.opn = s.opn + 1 ∧ (openF s).1.rd (s.opn + 1) = some (openF s).1.clk) ∨ ((openF s).2.2 = 21 ∧ (openF s).2.1 = 0) := by
  unfold openF
  split
  · exact .inr ⟨rfl, rfl⟩
  · exact .inl ⟨rfl, rfl, rfl, by show setN _ _ _ _ = _; unfold setN; rw [if_pos rfl]⟩
/-- collecting changes nothing that is read -/
theorem collects_read {s : Sh} {k : Nat} (h : Inv s k) (r : Nat) (t : Tx) : readF (collectF s (timesOf s)) r t = readF s r t := by
  cases hr : s.rd r with
  | none => rw [readF_none (s := collectF s (timesOf s)) hr, readF_none hr]
  | some c =>
    rw [readF_some (s := collectF s (timesOf s)) hr, readF_some hr]
    show Sn.rdv (Sn.cur (Sn.colls (s.keys t) (timesOf s)) c) = _
    rw [Sn.cur_colls (h.ord t) ((times_some h).all r c hr)]
theorem times_mem {s t : Sh} {a b : List Nat} (ha : TimesOf s a) (hb : TimesOf t b) (hc : s.clk = t.clk) (hr : s.rd = t.rd) (c : Nat) : c ∈ a ↔ c ∈ b := by
  constructor
  · intro h
    rcases ha.sub c h with e | ⟨i, e⟩
    · rw [e, hc]; exact hb.ck
    · exact hb.all i c (by rw [← hr]; exact e)
  · intro h
    rcases hb.sub c h with e | ⟨i, e⟩
    · rw [e, ← hc]; exact ha.ck
    · exact ha.all i c (by rw [hr]; exact e)
theorem collects_twice {s : Sh} {k : Nat} (h : Inv s k) {a b : List Nat} (ha : TimesOf s a) (hb : TimesOf (collectF s a) b) : collectF (collectF s a) b = collectF s a := by
  have hm := times_mem hb ha rfl rfl
  unfold collectF
  congr 1
  funext t
  show Sn.colls (Sn.colls (s.keys t) a) b = Sn.colls (s.keys t) a
  rw [colls_same hm, Sn.colls_twice (h.ord t)]
theorem sumK_le {f g : Tx → List Sn.Val} (h : ∀ u, (g u).Sublist (f u)) : ∀ ks : List Tx, Sn.sumK g ks ≤ Sn.sumK f ks
  | [] => Nat.le_refl _
  | k :: ks => by
    have ih := sumK_le h ks
    have h1 : Sn.cnt (g k) ≤ Sn.cnt (f k) := ((h k).filter _).length_le
    unfold Sn.sumK at ih ⊢
    rw [List.map_cons, List.map_cons, List.sum_cons, List.sum_cons]
    omega
theorem held_mono {f g : Tx → List Sn.Val} {n m : Nat} (hf : Sn.HeldIs f n) (hg : Sn.HeldIs g m) (h : ∀ u, (g u).Sublist (f u)) : m ≤ n := by
  obtain ⟨ks, a, b, c⟩ := hf
  have : Sn.HeldIs g (Sn.sumK g ks) := ⟨ks, a, fun u hu => b u (fun e => hu (by have := h u; rw [e] at this; simpa using this)), rfl⟩
  rw [Sn.held_unique hg this, c]
  exact sumK_le h ks
theorem nodup_of : ∀ K : List Tx, ∃ ks : List Tx, ks.Nodup ∧ ∀ t, t ∈ ks ↔ t ∈ K
  | [] => ⟨[], List.nodup_nil, fun _ => Iff.rfl⟩
  | k :: K => by
    obtain ⟨ks, h1, h2⟩ := nodup_of K
    by_cases hk : k ∈ ks
    · refine ⟨ks, h1, fun t => ⟨fun h => List.mem_cons_of_mem _ ((h2 t).1 h), fun h => ?_⟩⟩
      rcases List.mem_cons.1 h with e | e
      · rw [e]; exact hk
      · exact (h2 t).2 e
    · refine ⟨k :: ks, List.nodup_cons.2 ⟨hk, h1⟩, fun t => ?_⟩
      simp [h2 t]
theorem cur_mem' {l : List Sn.Val} {c : Nat} {v : Sn.Val} (h : Sn.cur l c = some v) : v ∈ l := by
  unfold Sn.cur at h
  exact (List.mem_filter.1 (List.mem_of_getLast? h)).1
theorem rdv_ok {v : Sn.Val} (h : v.forgot = true → v.gone = true) : (Sn.rdv (some v)).2 = 0 ↔ v.gone = false := by
  unfold Sn.rdv
  dsimp only
  cases hg : v.gone <;> cases hf : v.forgot
  · simp
  · rw [h hf] at hg; cases hg
  · simp
  · simp
/-- when nobody reads but the newest version: as many values as it has keys -/
theorem collects_last {s : Sh} {k fresh n : Nat} (h : Inv s k) (fg : FG s) {K D : List Tx} (hs : Supp s K) (hr : s.rd fresh = some s.clk) {ts : List Nat} (ht : ∀ c, c ∈ ts ↔ c = s.clk)
    (hn : Sn.HeldIs (fun u => Sn.colls (s.keys u) ts) n) (hD : D.Nodup) (hm : ∀ t, t ∈ D ↔ t ∈ K ∧ (readF s fresh t).2 = 0) : n = D.length := by
  obtain ⟨ks, k1, k2⟩ := nodup_of K
  have e1 : ∀ u, Sn.colls (s.keys u) ts = (Sn.cur (s.keys u) s.clk).toList := fun u => by
    rw [colls_same (ts' := [s.clk]) (fun c => by rw [ht c]; simp), Sn.colls_one (h.ord u)]
  have hh : Sn.HeldIs (fun u => Sn.colls (s.keys u) ts) (Sn.sumK (fun u => Sn.colls (s.keys u) ts) ks) :=
    ⟨ks, k1, fun u hu => (k2 u).2 (hs u (fun e => hu (by show Sn.colls (s.keys u) ts = []; rw [e]; rfl))), rfl⟩
  rw [Sn.held_unique hn hh]
  have e2 : ∀ u, Sn.cnt (Sn.colls (s.keys u) ts) = if decide ((readF s fresh u).2 = 0) then 1 else 0 := fun u => by
    rw [e1 u, readF_some hr]
    cases hc : Sn.cur (s.keys u) s.clk with
    | none => rfl
    | some v =>
      have hv := rdv_ok (fg.fg u v (cur_mem' hc))
      by_cases hg : v.gone = false
      · rw [if_pos (by simpa using hv.2 hg)]
        simp [Sn.cnt, hg]
      · rw [if_neg (by simp; exact fun e => hg (hv.1 e))]
        simp [Sn.cnt, hg]
  have e3 : ∀ l : List Tx, Sn.sumK (fun u => Sn.colls (s.keys u) ts) l = (l.filter fun u => decide ((readF s fresh u).2 = 0)).length := fun l => by
    induction l with
    | nil => rfl
    | cons a l ih =>
      have : Sn.sumK (fun u => Sn.colls (s.keys u) ts) (a :: l) = Sn.cnt (Sn.colls (s.keys a) ts) + Sn.sumK (fun u => Sn.colls (s.keys u) ts) l := by unfold Sn.sumK; rw [List.map_cons, List.sum_cons]
      rw [this, ih, e2 a, List.filter_cons]
      split
      · rw [List.length_cons]; omega
      · omega
  rw [e3 ks]
  refine ((List.perm_ext_iff_of_nodup (k1.filter _) hD).2 fun u => ?_).length_eq
  rw [hm u, List.mem_filter, k2 u]
  simp
theorem close_step {s t : Sh} {r : Nat} (h : ∀ i, s.rd i = if 1 ≤ i ∧ i < r then none else t.rd i) (hr : 1 ≤ r) :
    (∀ i, (closeF s r).1.rd i = if 1 ≤ i ∧ i < r + 1 then none else t.rd i) ∧ (closeF s r).1.keys = s.keys ∧ (closeF s r).1.clk = s.clk := by
  unfold closeF
  cases hc : s.rd r with
  | none =>
    refine ⟨fun i => ?_, rfl, rfl⟩
    show s.rd i = _
    by_cases e : i = r
    · subst e; rw [hc, if_pos (by omega)]
    · rw [h i]
      by_cases h1 : 1 ≤ i ∧ i < r
      · rw [if_pos h1, if_pos (by omega)]
      · rw [if_neg h1, if_neg (by omega)]
  | some c =>
    refine ⟨fun i => ?_, rfl, rfl⟩
    show setN s.rd r none i = _
    unfold setN
    by_cases e : i = r
    · subst e; rw [if_pos rfl, if_pos (by omega)]
    · rw [if_neg e, h i]
      by_cases h1 : 1 ≤ i ∧ i < r
      · rw [if_pos h1, if_pos (by omega)]
      · rw [if_neg h1, if_neg (by omega)]
end Go.Proofs.Ytfhgidbmeifflaa
