/- PLAIN: a shelf and the reference's shelf, side by side. -/
import Derived.Test.YtfhgidbmeifflaaPI0
set_option linter.unusedSimpArgs false
set_option linter.unusedVariables false
namespace Go.Proofs.Ytfhgidbmeifflaa
open Go.RowKit Go.Maps Go.ChangeMaps Go.MapKept Go.WideShapes Go.WideMaps

/-- what a list of entries has for a key -/
def fnd (l : List Ent) (k : Tx) : Option Ent := l[findI l k]?
theorem fnd_eq (l : List Ent) (k : Tx) : fnd l k = l.find? fun e => decide (e.key = k) := by
  unfold fnd findI
  induction l with
  | nil => rfl
  | cons a l ih =>
    rw [List.findIdx_cons, List.find?_cons]
    cases h : decide (a.key = k)
    · simpa using ih
    · simp
theorem fnd_key {l : List Ent} {k : Tx} {e : Ent} (h : fnd l k = some e) : e.key = k ∧ e ∈ l := by
  rw [fnd_eq] at h
  exact ⟨by simpa using List.find?_some h, List.mem_of_find?_eq_some h⟩
theorem fnd_nil (k : Tx) : fnd [] k = none := rfl
theorem fnd_none {l : List Ent} {k : Tx} : fnd l k = none ↔ ∀ e ∈ l, e.key ≠ k := by
  rw [fnd_eq, List.find?_eq_none]
  simp
theorem fnd_lt {l : List Ent} {k : Tx} : findI l k < l.length ↔ ∃ e ∈ l, e.key = k := by
  unfold findI
  rw [List.findIdx_lt_length]
  simp
theorem fnd_snoc (l : List Ent) (e : Ent) (k : Tx) : fnd (l ++ [e]) k = (fnd l k).or (if e.key = k then some e else none) := by
  rw [fnd_eq, fnd_eq, List.find?_append]
  congr 1
  by_cases h : e.key = k <;> simp [h]
theorem fnd_without (l : List Ent) (k k' : Tx) : fnd (withoutL l k) k' = if k' = k then none else fnd l k' := by
  by_cases h : k' = k
  · rw [if_pos h, fnd_none]
    intro e he
    have := (List.mem_filter.1 he).2
    rw [h]; simpa using this
  · rw [if_neg h, fnd_eq, fnd_eq]
    unfold withoutL
    induction l with
    | nil => rfl
    | cons a l ih =>
      by_cases ha : a.key = k
      · rw [List.filter_cons_of_neg (by simp [ha]), ih, List.find?_cons_of_neg (by simp [ha]; exact fun e => h e.symm)]
      · rw [List.filter_cons_of_pos (by simp [ha])]
        by_cases hk : a.key = k'
        · rw [List.find?_cons_of_pos (by simp [hk]), List.find?_cons_of_pos (by simp [hk])]
        · rw [List.find?_cons_of_neg (by simp [hk]), List.find?_cons_of_neg (by simp [hk]), ih]
theorem shown_fnd (l : List Ent) (x : Ent) : shownB l x = match fnd l x.key with | some e => decide (e.num = x.num) | none => false := rfl
/-- an entry for what counts -/
def entOf (N : Tx → Nat → Nat) (k : Tx) : Option Sn.Val → Option Ent
  | none => none
  | some v => if v.forgot then some ⟨k, [], 0⟩ else if v.gone then none else some ⟨k, v.text, N k v.since⟩
structure Rel (s : Sh) (t : RSh) (N : Tx → Nat → Nat) : Prop where
  ord : ∀ k, Sn.Ord 0 (s.keys k)
  upto : ∀ k, ∀ v ∈ s.keys k, v.since ≤ s.clk
  rdc : ∀ i c, s.rd i = some c → c ≤ s.clk ∧ 1 ≤ i ∧ i ≤ s.opn
  ver : t.ver = s.ver
  opn : t.opn.length = s.opn
  rds : t.readers.length = s.opn
  isb : ∀ i, i < s.opn → t.opn[i]? = some (s.rd (i + 1)).isSome
  cnt : cntO t.opn = s.nrd
  fg : ∀ k, ∀ v ∈ s.keys k, v.forgot = true → v.gone = true
  pos : ∀ k, ∀ v ∈ s.keys k, v.gone = false → 1 ≤ N k v.since ∧ N k v.since ≤ t.count
  inj : ∀ k, ∀ v ∈ s.keys k, ∀ v' ∈ s.keys k, v.gone = false → v'.gone = false → N k v.since = N k v'.since → v.since = v'.since
  kept : ∀ e : Ent, e ∈ t.kept ↔ ∃ v ∈ s.keys e.key, v.gone = false ∧ e.val = v.text ∧ e.num = N e.key v.since
  kup : t.kept.Pairwise fun a b => a.num < b.num
  new : ∀ k, fnd t.newest k = entOf N k (Sn.cur (s.keys k) s.clk)
  nf : ∀ k v, Sn.cur (s.keys k) s.clk = some v → v.forgot = false
  rd : ∀ i c, s.rd i = some c → ∀ k, fnd (t.readers.getD (i - 1) []) k = entOf N k (Sn.cur (s.keys k) c)
  sup : ∃ ks : List Tx, ks.Nodup ∧ ∀ k, s.keys k ≠ [] → k ∈ ks
theorem cur_mem {l : List Sn.Val} {c : Nat} {v : Sn.Val} (h : Sn.cur l c = some v) : v ∈ l ∧ v.since ≤ c := by
  unfold Sn.cur at h
  have := List.mem_filter.1 (List.mem_of_getLast? h)
  exact ⟨this.1, by simpa using this.2⟩
theorem since_inj {l : List Sn.Val} {lo : Nat} (h : Sn.Ord lo l) {v v' : Sn.Val} (hv : v ∈ l) (hv' : v' ∈ l) (e : v.since = v'.since) : v = v' := by
  obtain ⟨i, hi, rfl⟩ := List.mem_iff_getElem.1 hv
  obtain ⟨k, hk, rfl⟩ := List.mem_iff_getElem.1 hv'
  rcases Nat.lt_trichotomy i k with h1 | h1 | h1
  · have := Sn.ord_get h hi hk h1; omega
  · subst h1; rfl
  · have := Sn.ord_get h hk hi h1; omega
theorem cur_upto {l : List Sn.Val} {c c' : Nat} (h : ∀ v ∈ l, v.since ≤ c) (hc : c ≤ c') : Sn.cur l c' = Sn.cur l c := by
  unfold Sn.cur
  rw [List.filter_eq_self.2 (fun v hv => by have := h v hv; simp; omega), List.filter_eq_self.2 (fun v hv => by simpa using h v hv)]
theorem cur_last {l : List Sn.Val} {c : Nat} (h : ∀ v ∈ l, v.since ≤ c) : Sn.cur l c = l.getLast? := by
  unfold Sn.cur
  rw [List.filter_eq_self.2 (fun v hv => by simpa using h v hv)]
theorem Rel.start : Rel newS newR (fun _ _ => 0) where
  ord := fun _ => trivial
  upto := fun k v h => by simp [newS] at h
  rdc := fun i c h => by simp [newS] at h
  ver := rfl
  opn := rfl
  rds := rfl
  isb := fun i h => absurd h (Nat.not_lt_zero _)
  cnt := rfl
  fg := fun k v h => by simp [newS] at h
  pos := fun k v h => by simp [newS] at h
  inj := fun k v h => by simp [newS] at h
  kept := fun e => by simp [newS, newR]
  kup := List.Pairwise.nil
  new := fun k => rfl
  nf := fun k v h => by simp [newS, Sn.cur] at h
  rd := fun i c h => by simp [newS] at h
  sup := ⟨[], List.nodup_nil, fun k h => absurd rfl h⟩
theorem Rel.isB {s : Sh} {t : RSh} {N : Tx → Nat → Nat} (h : Rel s t N) (r : Nat) : isB t r = (s.rd r).isSome := by
  have h0 : ∀ i, (s.rd i).isSome = true → 1 ≤ i ∧ i ≤ s.opn := fun i hi => by
    obtain ⟨c, hc⟩ := Option.isSome_iff_exists.1 hi
    exact (h.rdc i c hc).2
  cases r with
  | zero =>
    show false = _
    cases e : (s.rd 0).isSome
    · rfl
    · have := (h0 0 e).1; omega
  | succ i =>
    show t.opn.getD i false = _
    rw [List.getD_eq_getElem?_getD]
    by_cases hi : i < s.opn
    · rw [h.isb i hi]; rfl
    · rw [List.getElem?_eq_none (by rw [h.opn]; omega)]
      cases e : (s.rd (i + 1)).isSome
      · rfl
      · have := (h0 _ e).2; omega
theorem Rel.ent_rdv {s : Sh} {t : RSh} {N : Tx → Nat → Nat} (h : Rel s t N) (k : Tx) (c : Nat) : rdE (entOf N k (Sn.cur (s.keys k) c)) = Sn.rdv (Sn.cur (s.keys k) c) := by
  cases e : Sn.cur (s.keys k) c with
  | none => rfl
  | some v =>
    have hm := (cur_mem e).1
    unfold entOf Sn.rdv
    cases hf : v.forgot
    · cases hg : v.gone
      · have := (h.pos k v hm hg).1
        simp [hf, hg, rdE]
        omega
      · simp [hf, hg, rdE]
    · simp [hf, rdE]
theorem Rel.read {s : Sh} {t : RSh} {N : Tx → Nat → Nat} (h : Rel s t N) (r : Nat) (k : Tx) : rReadF t r k = readF s r k := by
  unfold rReadF readF
  rw [h.isB r]
  cases e : s.rd r with
  | none => rfl
  | some c =>
    show rdE (fnd _ k) = _
    rw [h.rd r c e k, h.ent_rdv]
/-! ### how many are held -/
theorem Rel.held {s : Sh} {t : RSh} {N : Tx → Nat → Nat} (h : Rel s t N) : Sn.HeldIs s.keys t.kept.length := by
  obtain ⟨ks, hn, hs⟩ := h.sup
  refine ⟨ks, hn, hs, ?_⟩
  have key : ∀ k, (((s.keys k).filter fun v => !v.gone).map fun v => (⟨k, v.text, N k v.since⟩ : Ent)).Nodup := fun k => by
    have hp : (s.keys k).Pairwise fun a b => a.since < b.since := by
      rw [List.pairwise_iff_getElem]
      intro i j hi hj hij
      exact Sn.ord_get (h.ord k) hi hj hij
    have hp2 : ((s.keys k).filter fun v => !v.gone).Pairwise fun a b => (a.since < b.since) := hp.filter _
    rw [List.nodup_iff_pairwise_ne, List.pairwise_map]
    refine List.Pairwise.imp_of_mem ?_ hp2
    intro a b ha hb hab e
    have ha' := List.mem_filter.1 ha
    have hb' := List.mem_filter.1 hb
    have := h.inj k a ha'.1 b hb'.1 (by simpa using ha'.2) (by simpa using hb'.2) (congrArg Ent.num e)
    omega
  have hnk : t.kept.Nodup := by
    rw [List.nodup_iff_pairwise_ne]
    exact h.kup.imp fun {a b} hab e => by rw [e] at hab; exact Nat.lt_irrefl _ hab
  have hfl : ∀ l : List Tx, l.Nodup → (l.flatMap fun k => (((s.keys k).filter fun v => !v.gone).map fun v => (⟨k, v.text, N k v.since⟩ : Ent))).Nodup ∧ (l.flatMap fun k => (((s.keys k).filter fun v => !v.gone).map fun v => (⟨k, v.text, N k v.since⟩ : Ent))).length = Sn.sumK s.keys l := by
    intro l
    induction l with
    | nil => intro _; exact ⟨List.nodup_nil, rfl⟩
    | cons k l ih =>
      intro hl
      rw [List.nodup_cons] at hl
      obtain ⟨i1, i2⟩ := ih hl.2
      rw [List.flatMap_cons]
      constructor
      · refine List.nodup_append.2 ⟨key k, i1, ?_⟩
        intro a ha b hb e
        obtain ⟨v, _, rfl⟩ := List.mem_map.1 ha
        obtain ⟨k', hk', hb⟩ := List.mem_flatMap.1 hb
        obtain ⟨v', _, rfl⟩ := List.mem_map.1 hb
        have : k = k' := congrArg Ent.key e
        rw [this] at hl
        exact hl.1 hk'
      · rw [List.length_append, i2, List.length_map]
        unfold Sn.sumK Sn.cnt
        rw [List.map_cons, List.sum_cons]
  obtain ⟨f1, f2⟩ := hfl ks hn
  rw [← f2]
  refine ((List.perm_ext_iff_of_nodup hnk f1).2 fun e => ?_).length_eq
  rw [h.kept e, List.mem_flatMap]
  constructor
  · rintro ⟨v, hv, hg, h1, h2⟩
    refine ⟨e.key, hs _ (fun h0 => by rw [h0] at hv; cases hv), List.mem_map.2 ⟨v, List.mem_filter.2 ⟨hv, by simp [hg]⟩, ?_⟩⟩
    cases e; simp_all
  · rintro ⟨k, _, hm⟩
    obtain ⟨v, hv, rfl⟩ := List.mem_map.1 hm
    have := List.mem_filter.1 hv
    exact ⟨v, this.1, by simpa using this.2, rfl, rfl⟩
/-! ### the steps -/
theorem Rel.tick {s : Sh} {t : RSh} {N : Tx → Nat → Nat} (h : Rel s t N) (d : Nat) : Rel { s with ver := s.ver + d, clk := s.clk + 1 } { t with ver := t.ver + d } N where
  ord := h.ord
  upto := fun k v hv => Nat.le_succ_of_le (h.upto k v hv)
  rdc := fun i c hc => ⟨Nat.le_succ_of_le (h.rdc i c hc).1, (h.rdc i c hc).2⟩
  ver := by show t.ver + d = s.ver + d; rw [h.ver]
  opn := h.opn
  rds := h.rds
  isb := h.isb
  cnt := h.cnt
  fg := h.fg
  pos := h.pos
  inj := h.inj
  kept := h.kept
  kup := h.kup
  new := fun k => by
    show _ = entOf N k (Sn.cur (s.keys k) (s.clk + 1))
    rw [cur_upto (h.upto k) (Nat.le_succ _)]; exact h.new k
  nf := fun k v hv => by
    have hv : Sn.cur (s.keys k) (s.clk + 1) = some v := hv
    rw [cur_upto (h.upto k) (Nat.le_succ _)] at hv; exact h.nf k v hv
  rd := h.rd
  sup := h.sup
theorem setK_app_ne {α : Type} (f : Tx → α) (k : Tx) (x : α) {k' : Tx} (h : k' ≠ k) : setK f k x k' = f k' := by unfold setK; rw [if_neg h]
theorem setK_app_self {α : Type} (f : Tx → α) (k : Tx) (x : α) : setK f k x k = x := by unfold setK; rw [if_pos rfl]
theorem sup_set {f : Tx → List Sn.Val} (h : ∃ ks : List Tx, ks.Nodup ∧ ∀ k, f k ≠ [] → k ∈ ks) (k : Tx) (x : List Sn.Val) : ∃ ks : List Tx, ks.Nodup ∧ ∀ k', setK f k x k' ≠ [] → k' ∈ ks := by
  obtain ⟨ks, hn, hs⟩ := h
  by_cases hk : k ∈ ks
  · refine ⟨ks, hn, fun k' h' => ?_⟩
    by_cases e : k' = k
    · rw [e]; exact hk
    · rw [setK_app_ne _ _ _ e] at h'; exact hs k' h'
  · refine ⟨k :: ks, List.nodup_cons.2 ⟨hk, hn⟩, fun k' h' => ?_⟩
    by_cases e : k' = k
    · rw [e]; exact List.mem_cons_self
    · rw [setK_app_ne _ _ _ e] at h'; exact List.mem_cons_of_mem _ (hs k' h')
/-- a gone value at the newest time -/
theorem Rel.appGone {s : Sh} {t : RSh} {N : Tx → Nat → Nat} (h : Rel s t N) (k : Tx) (hf : ∀ v ∈ s.keys k, v.since < s.clk) (hr : ∀ i c, s.rd i = some c → c < s.clk) :
    Rel { s with keys := setK s.keys k (s.keys k ++ [⟨s.clk, [], true, false⟩]) } (rdrop t k) N := by
  have mem : ∀ k' v, v ∈ setK s.keys k (s.keys k ++ [⟨s.clk, [], true, false⟩]) k' → v ∈ s.keys k' ∨ (k' = k ∧ v = ⟨s.clk, [], true, false⟩) := fun k' v hv => by
    by_cases e : k' = k
    · subst e
      rw [setK_app_self] at hv
      rcases List.mem_append.1 hv with hv | hv
      · exact .inl hv
      · exact .inr ⟨rfl, List.mem_singleton.1 hv⟩
    · rw [setK_app_ne _ _ _ e] at hv; exact .inl hv
  have sub : ∀ k' v, v ∈ s.keys k' → v ∈ setK s.keys k (s.keys k ++ [⟨s.clk, [], true, false⟩]) k' := fun k' v hv => by
    by_cases e : k' = k
    · subst e; rw [setK_app_self]; exact List.mem_append_left _ hv
    · rw [setK_app_ne _ _ _ e]; exact hv
  exact {
    ord := fun k' => by
      by_cases e : k' = k
      · subst e
        show Sn.Ord 0 (setK s.keys k' _ k')
        rw [setK_app_self]
        exact Sn.ord_snoc (h.ord k') (Nat.zero_le _) hf
      · show Sn.Ord 0 (setK s.keys k _ k')
        rw [setK_app_ne _ _ _ e]; exact h.ord k'
    upto := fun k' v hv => by
      rcases mem k' v hv with hv | ⟨_, rfl⟩
      · exact h.upto k' v hv
      · exact Nat.le_refl _
    rdc := h.rdc
    ver := h.ver
    opn := h.opn
    rds := h.rds
    isb := h.isb
    cnt := h.cnt
    fg := fun k' v hv hx => by
      rcases mem k' v hv with hv | ⟨_, rfl⟩
      · exact h.fg k' v hv hx
      · rfl
    pos := fun k' v hv hx => by
      rcases mem k' v hv with hv | ⟨_, rfl⟩
      · exact h.pos k' v hv hx
      · cases hx
    inj := fun k' v hv v' hv' hx hx' e => by
      rcases mem k' v hv with hv | ⟨_, rfl⟩
      · rcases mem k' v' hv' with hv' | ⟨_, rfl⟩
        · exact h.inj k' v hv v' hv' hx hx' e
        · cases hx'
      · cases hx
    kept := fun e => by
      refine (h.kept e).trans ⟨?_, ?_⟩
      · rintro ⟨v, hv, r⟩; exact ⟨v, sub _ _ hv, r⟩
      · rintro ⟨v, hv, r⟩
        rcases mem _ v hv with hv | ⟨_, rfl⟩
        · exact ⟨v, hv, r⟩
        · cases r.1
    kup := h.kup
    new := fun k' => by
      show fnd (withoutL t.newest k) k' = entOf N k' (Sn.cur (setK s.keys k _ k') s.clk)
      rw [fnd_without]
      by_cases e : k' = k
      · subst e
        rw [if_pos rfl, setK_app_self, Sn.cur_snoc_old (Nat.le_refl _)]; rfl
      · rw [if_neg e, setK_app_ne _ _ _ e]; exact h.new k'
    nf := fun k' v hv => by
      have hv : Sn.cur (setK s.keys k _ k') s.clk = some v := hv
      by_cases e : k' = k
      · subst e
        rw [setK_app_self, Sn.cur_snoc_old (Nat.le_refl _)] at hv
        cases hv; rfl
      · rw [setK_app_ne _ _ _ e] at hv; exact h.nf k' v hv
    rd := fun i c hc k' => by
      show fnd (t.readers.getD (i - 1) []) k' = entOf N k' (Sn.cur (setK s.keys k _ k') c)
      rw [h.rd i c hc k']
      by_cases e : k' = k
      · subst e
        rw [setK_app_self, Sn.cur_snoc_new (hr i c hc)]
      · rw [setK_app_ne _ _ _ e]
    sup := sup_set h.sup k _ }
theorem setK_id (f : Tx → List Sn.Val) (k : Tx) : setK f k (f k) = f := by
  funext k'
  unfold setK
  split
  · rename_i e; rw [e]
  · rfl
theorem Rel.drop {s : Sh} {t : RSh} {N : Tx → Nat → Nat} (h : Rel s t N) (k : Tx) (hf : ∀ v ∈ s.keys k, v.since < s.clk) (hr : ∀ i c, s.rd i = some c → c < s.clk) :
    Rel { s with keys := setK s.keys k (dropV s.clk (s.keys k)) } (rdrop t k) N := by
  have stay : dropV s.clk (s.keys k) = s.keys k → entOf N k (Sn.cur (s.keys k) s.clk) = none → Rel { s with keys := setK s.keys k (dropV s.clk (s.keys k)) } (rdrop t k) N := fun e1 e2 => by
    rw [e1, setK_id]
    have hn : ∀ k', fnd (rdrop t k).newest k' = entOf N k' (Sn.cur (s.keys k') s.clk) := fun k' => by
      show fnd (withoutL t.newest k) k' = entOf N k' (Sn.cur (s.keys k') s.clk)
      rw [fnd_without]
      by_cases e : k' = k
      · rw [if_pos e, e, e2]
      · rw [if_neg e]; exact h.new k'
    exact { h with new := hn }
  cases e : (s.keys k).getLast? with
  | none =>
    refine stay ?_ ?_
    · unfold dropV; rw [e]
    · rw [cur_last (h.upto k), e]; rfl
  | some v =>
    cases hg : v.gone
    · rw [dropV_live e hg]
      exact h.appGone k hf hr
    · refine stay (dropV_gone e hg) ?_
      have hc : Sn.cur (s.keys k) s.clk = some v := by rw [cur_last (h.upto k), e]
      rw [hc]
      have := h.nf k v hc
      simp [entOf, this, hg]
/-- a value is put -/
theorem Rel.put {s : Sh} {t : RSh} {N : Tx → Nat → Nat} (h : Rel s t N) (k x : Tx) (hf : ∀ v ∈ s.keys k, v.since < s.clk) (hr : ∀ i c, s.rd i = some c → c < s.clk) :
    Rel { s with keys := setK s.keys k (s.keys k ++ [⟨s.clk, x, false, false⟩]) } (rput t k x) (fun k' c => if k' = k ∧ c = s.clk then t.count + 1 else N k' c) := by
  obtain ⟨N', hN'⟩ : ∃ N' : Tx → Nat → Nat, N' = (fun k' c => if k' = k ∧ c = s.clk then t.count + 1 else N k' c) := ⟨_, rfl⟩
  rw [← hN']
  have nk : N' k s.clk = t.count + 1 := by rw [hN']; simp
  have nold : ∀ k' v, v ∈ s.keys k' → N' k' v.since = N k' v.since := fun k' v hv => by
    rw [hN']
    by_cases e : k' = k
    · subst e
      have := hf v hv
      show (if k' = k' ∧ v.since = s.clk then _ else _) = _
      rw [if_neg (fun hh => by omega)]
    · show (if k' = k ∧ v.since = s.clk then _ else _) = _
      rw [if_neg (fun hh => e hh.1)]
  have eold : ∀ k' c, entOf N' k' (Sn.cur (s.keys k') c) = entOf N k' (Sn.cur (s.keys k') c) := fun k' c => by
    cases e : Sn.cur (s.keys k') c with
    | none => rfl
    | some v => simp only [entOf, nold k' v (cur_mem e).1]
  clear hN'
  have mem : ∀ k' v, v ∈ setK s.keys k (s.keys k ++ [⟨s.clk, x, false, false⟩]) k' → v ∈ s.keys k' ∨ (k' = k ∧ v = ⟨s.clk, x, false, false⟩) := fun k' v hv => by
    by_cases e : k' = k
    · subst e
      rw [setK_app_self] at hv
      rcases List.mem_append.1 hv with hv | hv
      · exact .inl hv
      · exact .inr ⟨rfl, List.mem_singleton.1 hv⟩
    · rw [setK_app_ne _ _ _ e] at hv; exact .inl hv
  have sub : ∀ k' v, v ∈ s.keys k' → v ∈ setK s.keys k (s.keys k ++ [⟨s.clk, x, false, false⟩]) k' := fun k' v hv => by
    by_cases e : k' = k
    · subst e; rw [setK_app_self]; exact List.mem_append_left _ hv
    · rw [setK_app_ne _ _ _ e]; exact hv
  have own : (⟨s.clk, x, false, false⟩ : Sn.Val) ∈ setK s.keys k (s.keys k ++ [⟨s.clk, x, false, false⟩]) k := by rw [setK_app_self]; simp
  exact {
    ord := fun k' => by
      by_cases e : k' = k
      · subst e
        show Sn.Ord 0 (setK s.keys k' _ k')
        rw [setK_app_self]
        exact Sn.ord_snoc (h.ord k') (Nat.zero_le _) hf
      · show Sn.Ord 0 (setK s.keys k _ k')
        rw [setK_app_ne _ _ _ e]; exact h.ord k'
    upto := fun k' v hv => by
      rcases mem k' v hv with hv | ⟨_, rfl⟩
      · exact h.upto k' v hv
      · exact Nat.le_refl _
    rdc := h.rdc
    ver := h.ver
    opn := h.opn
    rds := h.rds
    isb := h.isb
    cnt := h.cnt
    fg := fun k' v hv hx => by
      rcases mem k' v hv with hv | ⟨_, rfl⟩
      · exact h.fg k' v hv hx
      · cases hx
    pos := fun k' v hv hx => by
      show 1 ≤ N' k' v.since ∧ N' k' v.since ≤ t.count + 1
      rcases mem k' v hv with hv | ⟨rfl, rfl⟩
      · have := h.pos k' v hv hx
        rw [nold k' v hv]; omega
      · rw [nk]; omega
    inj := fun k' v hv v' hv' hx hx' e => by
      rcases mem k' v hv with hv | ⟨rfl, rfl⟩
      · rw [nold k' v hv] at e
        have h1 := h.pos k' v hv hx
        rcases mem k' v' hv' with hv' | ⟨rfl, rfl⟩
        · rw [nold k' v' hv'] at e
          exact h.inj k' v hv v' hv' hx hx' e
        · rw [nk] at e; omega
      · rcases mem _ v' hv' with hv' | ⟨_, rfl⟩
        · have h1 := h.pos _ v' hv' hx'
          rw [nold _ v' hv', nk] at e
          omega
        · rfl
    kept := fun e => by
      show e ∈ t.kept ++ [⟨k, x, t.count + 1⟩] ↔ _
      rw [List.mem_append, List.mem_singleton]
      constructor
      · rintro (he | rfl)
        · obtain ⟨v, hv, h1, h2, h3⟩ := (h.kept e).1 he
          exact ⟨v, sub _ _ hv, h1, h2, by rw [nold _ v hv]; exact h3⟩
        · exact ⟨_, own, rfl, rfl, nk.symm⟩
      · rintro ⟨v, hv, h1, h2, h3⟩
        rcases mem _ v hv with hv | ⟨hk, rfl⟩
        · rw [nold _ v hv] at h3
          exact .inl ((h.kept e).2 ⟨v, hv, h1, h2, h3⟩)
        · right
          rw [hk, nk] at h3
          cases e
          simp_all
    kup := by
      show (t.kept ++ [_]).Pairwise _
      rw [List.pairwise_append]
      refine ⟨h.kup, List.pairwise_singleton _ _, ?_⟩
      intro a ha b hb
      rw [List.mem_singleton.1 hb]
      obtain ⟨v, hv, h1, _, h3⟩ := (h.kept a).1 ha
      have := (h.pos _ v hv h1).2
      show a.num < t.count + 1
      omega
    new := fun k' => by
      show fnd (withoutL t.newest k ++ [⟨k, x, t.count + 1⟩]) k' = entOf N' k' (Sn.cur (setK s.keys k _ k') s.clk)
      rw [fnd_snoc, fnd_without]
      by_cases e : k' = k
      · subst e
        rw [if_pos rfl, setK_app_self, Sn.cur_snoc_old (Nat.le_refl _)]
        simp [entOf, nk]
      · rw [if_neg e, setK_app_ne _ _ _ e, eold, ← h.new k', if_neg (fun hh => e hh.symm), Option.or_none]
    nf := fun k' v hv => by
      have hv : Sn.cur (setK s.keys k _ k') s.clk = some v := hv
      by_cases e : k' = k
      · subst e
        rw [setK_app_self, Sn.cur_snoc_old (Nat.le_refl _)] at hv
        cases hv; rfl
      · rw [setK_app_ne _ _ _ e] at hv; exact h.nf k' v hv
    rd := fun i c hc k' => by
      show fnd (t.readers.getD (i - 1) []) k' = entOf N' k' (Sn.cur (setK s.keys k _ k') c)
      rw [h.rd i c hc k', ← eold]
      by_cases e : k' = k
      · subst e
        rw [setK_app_self, Sn.cur_snoc_new (hr i c hc)]
      · rw [setK_app_ne _ _ _ e]
    sup := sup_set h.sup k _ }
/-! ### readers -/
theorem cntO_snoc (l : List Bool) (b : Bool) : cntO (l ++ [b]) = cntO l + (if b then 1 else 0) := by
  unfold cntO
  rw [List.filter_append, List.length_append]
  cases b <;> rfl
theorem cntO_set (l : List Bool) : ∀ (i : Nat), l[i]? = some true → cntO (l.set i false) + 1 = cntO l := by
  induction l with
  | nil => intro i h; cases h
  | cons a l ih =>
    intro i h
    cases i with
    | zero =>
      have h : a = true := by simpa using h
      subst h
      rfl
    | succ i =>
      have := ih i (by simpa using h)
      unfold cntO at this ⊢
      rw [List.set_cons_succ]
      cases a
      · simpa using this
      · simp only [List.filter_cons, id, if_true, List.length_cons]; omega
theorem Rel.open_ {s : Sh} {t : RSh} {N : Tx → Nat → Nat} (h : Rel s t N) : Rel (openF s).1 (ropenF t).1 N ∧ (openF s).2 = (ropenF t).2 := by
  unfold openF ropenF
  rw [h.cnt]
  by_cases h64 : s.nrd = 64
  · rw [if_pos h64, if_pos h64]; exact ⟨h, rfl⟩
  · rw [if_neg h64, if_neg h64]
    refine ⟨?_, by show (s.opn + 1, 0) = (t.opn.length + 1, 0); rw [h.opn]⟩
    have hn : ∀ i, s.rd i ≠ none → i ≤ s.opn := fun i hi => by
      obtain ⟨c, hc⟩ := Option.ne_none_iff_exists'.1 hi
      exact (h.rdc i c hc).2.2
    exact {
      ord := h.ord
      upto := h.upto
      rdc := fun i c hc => by
        have hc : setN s.rd (s.opn + 1) (some s.clk) i = some c := hc
        unfold setN at hc
        show c ≤ s.clk ∧ 1 ≤ i ∧ i ≤ s.opn + 1
        split at hc
        · rename_i e; cases hc; omega
        · have := h.rdc i c hc; omega
      ver := h.ver
      opn := by show (t.opn ++ [true]).length = _; rw [List.length_append, h.opn]; rfl
      rds := by show (t.readers ++ [t.newest]).length = _; rw [List.length_append, h.rds]; rfl
      isb := fun i hi => by
        have hi : i < s.opn + 1 := hi
        show (t.opn ++ [true])[i]? = some (setN s.rd (s.opn + 1) (some s.clk) (i + 1)).isSome
        unfold setN
        by_cases e : i = s.opn
        · subst e
          rw [if_pos rfl, List.getElem?_append_right (by rw [h.opn]; exact Nat.le_refl _), h.opn]
          simp
        · rw [if_neg (by omega), List.getElem?_append_left (by rw [h.opn]; omega)]
          exact h.isb i (by omega)
      cnt := by show cntO (t.opn ++ [true]) = s.nrd + 1; rw [cntO_snoc, h.cnt]; rfl
      fg := h.fg
      pos := h.pos
      inj := h.inj
      kept := h.kept
      kup := h.kup
      new := h.new
      nf := h.nf
      rd := fun i c hc k => by
        have hc : setN s.rd (s.opn + 1) (some s.clk) i = some c := hc
        unfold setN at hc
        show fnd ((t.readers ++ [t.newest]).getD (i - 1) []) k = _
        rw [List.getD_eq_getElem?_getD]
        split at hc
        · rename_i e; cases hc
          subst e
          rw [List.getElem?_append_right (by rw [h.rds]; omega), h.rds]
          simp only [Nat.add_sub_cancel, Nat.sub_self]
          exact h.new k
        · have h1 := h.rdc i c hc
          rw [List.getElem?_append_left (by rw [h.rds]; omega), ← List.getD_eq_getElem?_getD]
          exact h.rd i c hc k
      sup := h.sup }
theorem Rel.close {s : Sh} {t : RSh} {N : Tx → Nat → Nat} (h : Rel s t N) (r : Nat) : Rel (closeF s r).1 (rcloseF t r).1 N ∧ (closeF s r).2 = (rcloseF t r).2 := by
  unfold closeF rcloseF
  rw [h.isB r]
  cases e : s.rd r with
  | none => exact ⟨h, rfl⟩
  | some c =>
    refine ⟨?_, rfl⟩
    have hr := h.rdc r c e
    have hT : t.opn[r - 1]? = some true := by rw [h.isb (r - 1) (by omega), Nat.sub_add_cancel hr.2.1, e]; rfl
    exact {
      ord := h.ord
      upto := h.upto
      rdc := fun i c hc => by
        have hc : setN s.rd r none i = some c := hc
        unfold setN at hc
        split at hc
        · cases hc
        · exact h.rdc i c hc
      ver := h.ver
      opn := by show (t.opn.set (r - 1) false).length = _; rw [List.length_set]; exact h.opn
      rds := h.rds
      isb := fun i hi => by
        show (t.opn.set (r - 1) false)[i]? = some (setN s.rd r none (i + 1)).isSome
        unfold setN
        have hi : i < s.opn := hi
        by_cases e : i = r - 1
        · subst e
          rw [if_pos (by omega), List.getElem?_set_self (by rw [h.opn]; exact hi)]; rfl
        · rw [if_neg (by omega), List.getElem?_set_ne (fun e' => e e'.symm)]
          exact h.isb i hi
      cnt := by
        have := cntO_set t.opn (r - 1) hT
        show cntO (t.opn.set (r - 1) false) = s.nrd - 1
        rw [← h.cnt]; omega
      fg := h.fg
      pos := h.pos
      inj := h.inj
      kept := h.kept
      kup := h.kup
      new := h.new
      nf := h.nf
      rd := fun i c hc k => by
        have hc : setN s.rd r none i = some c := hc
        unfold setN at hc
        split at hc
        · cases hc
        · exact h.rd i c hc k
      sup := h.sup }
/-! ### collecting -/
theorem times_ex {s : Sh} {t : RSh} {N : Tx → Nat → Nat} (h : Rel s t N) : TimesOf s (timesOf s) := by
  refine (times_eq (ts := s.clk :: (List.range (s.opn + 1)).filterMap s.rd) ⟨List.mem_cons_self, fun c hc => ?_, fun i c hc => ?_⟩).2
  · rcases List.mem_cons.1 hc with e | e
    · exact .inl e
    · obtain ⟨i, _, hi⟩ := List.mem_filterMap.1 e
      exact .inr ⟨i, hi⟩
  · exact List.mem_cons_of_mem _ (List.mem_filterMap.2 ⟨i, List.mem_range.2 (by have := h.rdc i c hc; omega), hc⟩)
theorem colls_mem {l : List Sn.Val} {ts : List Nat} (h : Sn.Ord 0 l) (v : Sn.Val) : v ∈ Sn.colls l ts ↔ ∃ c ∈ ts, Sn.cur l c = some v := by
  constructor
  · exact fun hv => Sn.mem_colls h hv
  · rintro ⟨c, hc, e⟩
    rw [← Sn.cur_colls h hc] at e
    exact (cur_mem e).1
/-- an entry that is kept is shown where its value counts -/
theorem Rel.shown {s : Sh} {t : RSh} {N : Tx → Nat → Nat} (h : Rel s t N) {l : List Ent} {c : Nat} {x : Ent} {v : Sn.Val} (hl : fnd l x.key = entOf N x.key (Sn.cur (s.keys x.key) c))
    (hv : v ∈ s.keys x.key) (hg : v.gone = false) (hx : x.num = N x.key v.since) : shownB l x = true ↔ Sn.cur (s.keys x.key) c = some v := by
  rw [shown_fnd, hl]
  cases e : Sn.cur (s.keys x.key) c with
  | none => simp [entOf]
  | some u =>
    have hu := (cur_mem e).1
    have hp := (h.pos x.key v hv hg).1
    cases hf : u.forgot
    · cases hgu : u.gone
      · simp only [entOf, hf, hgu, Bool.false_eq_true, if_false, decide_eq_true_eq, Option.some.injEq]
        constructor
        · intro e'
          exact since_inj (h.ord _) hu hv (h.inj _ u hu v hv hgu hg (by rw [e', hx]))
        · rintro rfl; exact hx.symm
      · simp only [entOf, hf, hgu, Bool.false_eq_true, if_false, if_true, Option.some.injEq, false_iff]
        rintro rfl
        rw [hg] at hgu; cases hgu
    · simp only [entOf, hf, if_true, decide_eq_true_eq, Option.some.injEq]
      constructor
      · intro e'; omega
      · rintro rfl
        rw [h.fg _ _ hu hf] at hg; cases hg
theorem Rel.keep {s : Sh} {t : RSh} {N : Tx → Nat → Nat} (h : Rel s t N) {ts : List Nat} (ht : TimesOf s ts) {x : Ent} {v : Sn.Val} (hv : v ∈ s.keys x.key) (hg : v.gone = false) (hx : x.num = N x.key v.since) :
    keepK t x t.opn.length = true ↔ v ∈ Sn.colls (s.keys x.key) ts := by
  rw [colls_mem (h.ord _)]
  unfold keepK
  rw [Bool.or_eq_true, List.any_eq_true, h.shown (h.new x.key) hv hg hx]
  constructor
  · rintro (e | ⟨j, hj, e⟩)
    · exact ⟨s.clk, ht.ck, e⟩
    · rw [Bool.and_eq_true] at e
      have hj := List.mem_range.1 hj
      rw [h.opn] at hj
      have e1 := e.1
      rw [List.getD_eq_getElem?_getD, h.isb j hj] at e1
      obtain ⟨c, hc⟩ := Option.isSome_iff_exists.1 (show (s.rd (j + 1)).isSome = true from e1)
      refine ⟨c, ht.all _ c hc, ?_⟩
      have hl := h.rd (j + 1) c hc x.key
      rw [Nat.add_sub_cancel] at hl
      exact (h.shown hl hv hg hx).1 e.2
  · rintro ⟨c, hc, e⟩
    rcases ht.sub c hc with rfl | ⟨i, hi⟩
    · exact .inl e
    · right
      have h1 := h.rdc i c hi
      refine ⟨i - 1, List.mem_range.2 (by rw [h.opn]; omega), ?_⟩
      rw [Bool.and_eq_true]
      refine ⟨?_, (h.shown (h.rd i c hi x.key) hv hg hx).2 e⟩
      rw [List.getD_eq_getElem?_getD, h.isb (i - 1) (by omega), Nat.sub_add_cancel h1.2.1, hi]; rfl
theorem Rel.collect {s : Sh} {t : RSh} {N : Tx → Nat → Nat} (h : Rel s t N) {ts : List Nat} (ht : TimesOf s ts) : Rel (collectF s ts) (rcollectF t) N where
  ord := fun k => Sn.ord_sub (Sn.colls_sub _ _) (h.ord k)
  upto := fun k v hv => h.upto k v ((Sn.colls_sub _ _).subset hv)
  rdc := h.rdc
  ver := h.ver
  opn := h.opn
  rds := h.rds
  isb := h.isb
  cnt := h.cnt
  fg := fun k v hv => h.fg k v ((Sn.colls_sub _ _).subset hv)
  pos := fun k v hv => h.pos k v ((Sn.colls_sub _ _).subset hv)
  inj := fun k v hv v' hv' => h.inj k v ((Sn.colls_sub _ _).subset hv) v' ((Sn.colls_sub _ _).subset hv')
  kept := fun e => by
    show e ∈ t.kept.filter _ ↔ ∃ v ∈ Sn.colls (s.keys e.key) ts, _
    rw [List.mem_filter]
    constructor
    · rintro ⟨he, hk⟩
      obtain ⟨v, hv, h1, h2, h3⟩ := (h.kept e).1 he
      exact ⟨v, (h.keep ht hv h1 h3).1 hk, h1, h2, h3⟩
    · rintro ⟨v, hv, h1, h2, h3⟩
      have hv' := (Sn.colls_sub _ _).subset hv
      exact ⟨(h.kept e).2 ⟨v, hv', h1, h2, h3⟩, (h.keep ht hv' h1 h3).2 hv⟩
  kup := h.kup.filter _
  new := fun k => by
    show fnd t.newest k = entOf N k (Sn.cur (Sn.colls (s.keys k) ts) s.clk)
    rw [Sn.cur_colls (h.ord k) ht.ck]; exact h.new k
  nf := fun k v hv => by
    have hv : Sn.cur (Sn.colls (s.keys k) ts) s.clk = some v := hv
    rw [Sn.cur_colls (h.ord k) ht.ck] at hv; exact h.nf k v hv
  rd := fun i c hc k => by
    show _ = entOf N k (Sn.cur (Sn.colls (s.keys k) ts) c)
    rw [Sn.cur_colls (h.ord k) (ht.all i c hc)]; exact h.rd i c hc k
  sup := by
    obtain ⟨ks, hn, hs⟩ := h.sup
    refine ⟨ks, hn, fun k hk => hs k (fun h0 => hk ?_)⟩
    show Sn.colls (s.keys k) ts = []
    rw [h0]; rfl
/-! ### forgetting -/
theorem fnd_fgt (l : List Ent) (k k' : Tx) : fnd (fgtR k l) k' = if k' = k then (if (fnd l k).isSome then some ⟨k, [], 0⟩ else none) else fnd l k' := by
  unfold fgtR
  by_cases hk : findI l k < l.length
  · rw [if_pos hk, fnd_snoc, fnd_without]
    have hs : (fnd l k).isSome = true := by unfold fnd; rw [List.getElem?_eq_getElem hk]; rfl
    by_cases e : k' = k
    · subst e; simp [hs]
    · rw [if_neg e, if_neg e, if_neg (fun h => e h.symm), Option.or_none]
  · rw [if_neg hk]
    have hn : fnd l k = none := by unfold fnd; exact List.getElem?_eq_none (by omega)
    by_cases e : k' = k
    · subst e; rw [if_pos rfl, hn]; rfl
    · rw [if_neg e]
theorem Rel.forget {s : Sh} {t : RSh} {N : Tx → Nat → Nat} (h : Rel s t N) (k : Tx) : Rel (forgetF s k).1 (rforgetF t k).1 N ∧ (forgetF s k).2 = (rforgetF t k).2 := by
  have same : (s.keys k).any (fun v => !v.gone) = true ↔ findI t.kept k < t.kept.length := by
    rw [fnd_lt, List.any_eq_true]
    constructor
    · rintro ⟨v, hv, hg⟩
      exact ⟨⟨k, v.text, N k v.since⟩, (h.kept _).2 ⟨v, hv, by simpa using hg, rfl, rfl⟩, rfl⟩
    · rintro ⟨e, he, rfl⟩
      obtain ⟨v, hv, hg, _⟩ := (h.kept e).1 he
      exact ⟨v, hv, by simp [hg]⟩
  unfold forgetF rforgetF
  by_cases hk : findI t.kept k < t.kept.length
  · rw [if_pos hk, if_pos (same.2 hk)]
    refine ⟨?_, rfl⟩
    have hm : Sn.Ord 0 ((s.keys k).map Sn.fgt) := Sn.ord_map Sn.fgt_since (h.ord k)
    have hu : ∀ v ∈ (s.keys k).map Sn.fgt, v.since ≤ s.clk := fun v hv => by
      obtain ⟨x, hx, rfl⟩ := List.mem_map.1 hv
      rw [Sn.fgt_since]; exact h.upto k x hx
    have mem : ∀ k' v, v ∈ setK s.keys k ((s.keys k).map Sn.fgt ++ [⟨s.clk + 1, [], true, false⟩]) k' → (k' ≠ k ∧ v ∈ s.keys k') ∨ (k' = k ∧ v.gone = true ∧ v.since ≤ s.clk + 1) := fun k' v hv => by
      by_cases e : k' = k
      · subst e
        rw [setK_app_self] at hv
        right
        refine ⟨rfl, ?_⟩
        rcases List.mem_append.1 hv with hv | hv
        · obtain ⟨x, hx, rfl⟩ := List.mem_map.1 hv
          exact ⟨Sn.fgt_gone x, by rw [Sn.fgt_since]; have := h.upto k' x hx; omega⟩
        · rw [List.mem_singleton.1 hv]; exact ⟨rfl, Nat.le_refl _⟩
      · rw [setK_app_ne _ _ _ e] at hv; exact .inl ⟨e, hv⟩
    exact {
      ord := fun k' => by
        show Sn.Ord 0 (setK s.keys k _ k')
        by_cases e : k' = k
        · subst e
          rw [setK_app_self]
          exact Sn.ord_snoc hm (Nat.zero_le _) (fun x hx => Nat.lt_succ_of_le (hu x hx))
        · rw [setK_app_ne _ _ _ e]; exact h.ord k'
      upto := fun k' v hv => by
        show v.since ≤ s.clk + 1
        rcases mem k' v hv with ⟨_, hv⟩ | ⟨_, _, hv⟩
        · exact Nat.le_succ_of_le (h.upto k' v hv)
        · exact hv
      rdc := fun i c hc => ⟨Nat.le_succ_of_le (h.rdc i c hc).1, (h.rdc i c hc).2⟩
      ver := h.ver
      opn := h.opn
      rds := by show (t.readers.map _).length = _; rw [List.length_map]; exact h.rds
      isb := h.isb
      cnt := h.cnt
      fg := fun k' v hv hx => by
        rcases mem k' v hv with ⟨_, hv⟩ | ⟨_, hg, _⟩
        · exact h.fg k' v hv hx
        · exact hg
      pos := fun k' v hv hx => by
        rcases mem k' v hv with ⟨_, hv⟩ | ⟨_, hg, _⟩
        · exact h.pos k' v hv hx
        · rw [hg] at hx; cases hx
      inj := fun k' v hv v' hv' hx hx' e => by
        rcases mem k' v hv with ⟨_, hv⟩ | ⟨_, hg, _⟩
        · rcases mem k' v' hv' with ⟨_, hv'⟩ | ⟨_, hg, _⟩
          · exact h.inj k' v hv v' hv' hx hx' e
          · rw [hg] at hx'; cases hx'
        · rw [hg] at hx; cases hx
      kept := fun e => by
        show e ∈ t.kept.filter _ ↔ _
        rw [List.mem_filter, h.kept e]
        constructor
        · rintro ⟨⟨v, hv, r⟩, hne⟩
          have hne : e.key ≠ k := by simpa using hne
          exact ⟨v, by show v ∈ setK s.keys k _ e.key; rw [setK_app_ne _ _ _ hne]; exact hv, r⟩
        · rintro ⟨v, hv, r⟩
          rcases mem _ v hv with ⟨hne, hv⟩ | ⟨_, hg, _⟩
          · exact ⟨⟨v, hv, r⟩, by simpa using hne⟩
          · rw [hg] at r; cases r.1
      kup := h.kup.filter _
      new := fun k' => by
        show fnd (withoutL t.newest k) k' = entOf N k' (Sn.cur (setK s.keys k _ k') (s.clk + 1))
        rw [fnd_without]
        by_cases e : k' = k
        · subst e
          rw [if_pos rfl, setK_app_self, Sn.cur_snoc_old (Nat.le_refl _)]; rfl
        · rw [if_neg e, setK_app_ne _ _ _ e, cur_upto (h.upto k') (Nat.le_succ _)]; exact h.new k'
      nf := fun k' v hv => by
        have hv : Sn.cur (setK s.keys k _ k') (s.clk + 1) = some v := hv
        by_cases e : k' = k
        · subst e
          rw [setK_app_self, Sn.cur_snoc_old (Nat.le_refl _)] at hv
          cases hv; rfl
        · rw [setK_app_ne _ _ _ e, cur_upto (h.upto k') (Nat.le_succ _)] at hv; exact h.nf k' v hv
      rd := fun i c hc k' => by
        have hi := h.rdc i c hc
        have hR : (t.readers.map (fgtR k)).getD (i - 1) [] = fgtR k (t.readers.getD (i - 1) []) := by
          rw [List.getD_eq_getElem?_getD, List.getD_eq_getElem?_getD, List.getElem?_map, List.getElem?_eq_getElem (by rw [h.rds]; omega)]; rfl
        show fnd ((t.readers.map (fgtR k)).getD (i - 1) []) k' = entOf N k' (Sn.cur (setK s.keys k _ k') c)
        rw [hR, fnd_fgt]
        by_cases e : k' = k
        · subst e
          rw [if_pos rfl, setK_app_self, Sn.cur_snoc_new (Nat.lt_succ_of_le hi.1), Sn.cur_map Sn.fgt_since, h.rd i c hc k']
          cases ec : Sn.cur (s.keys k') c with
          | none => rfl
          | some v =>
            have hv := (cur_mem ec).1
            cases hf : v.forgot
            · cases hg : v.gone
              · simp [entOf, hf, hg, Sn.fgt]
              · simp [entOf, hf, hg, Sn.fgt]
            · have hg := h.fg _ v hv hf
              simp [entOf, hf, hg, Sn.fgt]
        · rw [if_neg e, setK_app_ne _ _ _ e]; exact h.rd i c hc k'
      sup := sup_set h.sup k _ }
  · rw [if_neg hk, if_neg (fun hh => hk (same.1 hh))]
    exact ⟨h, rfl⟩
end Go.Proofs.Ytfhgidbmeifflaa
