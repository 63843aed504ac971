/- PLAIN: what SnapshotRemoved says: two shelves that differ in the texts of one key alone. -/
import Derived.Test.YtfhgidbmeifflaaOA
set_option linter.unusedSimpArgs false
set_option linter.unusedVariables false
namespace Go.Proofs.Ytfhgidbmeifflaa
open Go.RowKit Go.Maps Go.ChangeMaps Go.MapKept Go.WideShapes Go.WideMaps

def strip (v : Sn.Val) : Sn.Val := ⟨v.since, [], v.gone, v.forgot⟩
theorem cntAt_map {g : Sn.Val → Sn.Val} (hg : ∀ v, (g v).since = v.since) (l : List Sn.Val) (c : Nat) : Sn.cntAt (l.map g) c = Sn.cntAt l c := by
  unfold Sn.cntAt
  induction l with
  | nil => rfl
  | cons a l ih =>
    rw [List.map_cons, List.filter_cons, List.filter_cons, hg a]
    split
    · rw [List.length_cons, List.length_cons, ih]
    · exact ih
theorem collFrom_map (p : Nat → Bool) (g : Sn.Val → Sn.Val) : ∀ (i : Nat) (l : List Sn.Val), Sn.collFrom p i (l.map g) = (Sn.collFrom p i l).map g
  | _, [] => rfl
  | i, v :: l => by
    rw [List.map_cons, Sn.collFrom, Sn.collFrom, collFrom_map p g (i + 1) l]
    split <;> rfl
theorem colls_map {g : Sn.Val → Sn.Val} (hg : ∀ v, (g v).since = v.since) (l : List Sn.Val) (ts : List Nat) : Sn.colls (l.map g) ts = (Sn.colls l ts).map g := by
  unfold Sn.colls
  have : Sn.needB (l.map g) ts = Sn.needB l ts := by
    funext i
    unfold Sn.needB
    congr 1
    funext t
    rw [cntAt_map hg]
  rw [this, collFrom_map]
theorem cnt_strip (l : List Sn.Val) : Sn.cnt (l.map strip) = Sn.cnt l := by
  unfold Sn.cnt
  induction l with
  | nil => rfl
  | cons a l ih =>
    rw [List.map_cons, List.filter_cons, List.filter_cons]
    show (if (!a.gone) = true then _ else _ : List Sn.Val).length = _
    split
    · rw [List.length_cons, List.length_cons, ih]
    · exact ih
theorem dropV_strip (c : Nat) (l : List Sn.Val) : (dropV c l).map strip = dropV c (l.map strip) := by
  unfold dropV
  rw [List.getLast?_map]
  cases l.getLast? with
  | none => rfl
  | some v =>
    show List.map strip (if v.gone = true then l else l ++ [⟨c, [], true, false⟩]) = if v.gone = true then l.map strip else l.map strip ++ [⟨c, [], true, false⟩]
    split
    · rfl
    · rw [List.map_append]; rfl
theorem fgt_strip (v : Sn.Val) : strip (Sn.fgt v) = Sn.fgt (strip v) := by
  unfold Sn.fgt
  show strip (if v.gone = true then v else _) = if v.gone = true then strip v else _
  split <;> rfl
theorem any_strip (l : List Sn.Val) : (l.map strip).any (fun v => !v.gone) = l.any (fun v => !v.gone) := by rw [List.any_map]; rfl
theorem nil_strip {a b : List Sn.Val} (h : a.map strip = b.map strip) : a = [] ↔ b = [] := by
  constructor
  · intro e; rw [e] at h; simpa using h.symm
  · intro e; rw [e] at h; simpa using h
/-- alike but for the texts of one key -/
structure RelK (key : Tx) (s t : Sh) : Prop where
  ver : s.ver = t.ver
  clk : s.clk = t.clk
  opn : s.opn = t.opn
  rd : s.rd = t.rd
  nrd : s.nrd = t.nrd
  lim : s.lim = t.lim
  str : ∀ u, (s.keys u).map strip = (t.keys u).map strip
  oth : ∀ u, u ≠ key → s.keys u = t.keys u
theorem RelK.refl (key : Tx) (s : Sh) : RelK key s s := ⟨rfl, rfl, rfl, rfl, rfl, rfl, fun _ => rfl, fun _ _ => rfl⟩
def substP (key value : Tx) (ps : List (Tx × Tx)) : List (Tx × Tx) := ps.map fun q => (q.1, if q.1 = key then value else q.2)
theorem substP_keys (key value : Tx) (ps : List (Tx × Tx)) : (substP key value ps).map (·.1) = ps.map (·.1) := by unfold substP; rw [List.map_map]; rfl
theorem substP_get (key value : Tx) : ∀ (ps : List (Tx × Tx)) (u : Tx), getP (substP key value ps) u = (getP ps u).map fun x => if u = key then value else x
  | [], _ => rfl
  | (k, x) :: l, u => by
    show (if u = k then some (if k = key then value else x) else getP (substP key value l) u) = (if u = k then some x else getP l u).map _
    rw [substP_get key value l u]
    split
    · rename_i e; rw [e]; rfl
    · rfl
theorem substP_long (key value : Tx) (hv : value.length ≤ 20000) : ∀ (ps : List (Tx × Tx)), (∀ q ∈ ps, q.2.length ≤ 20000) → longP (substP key value ps) = longP ps
  | [], _ => rfl
  | (k, x) :: l, h => by
    have ih := substP_long key value hv l (fun q hq => h q (by simp [hq]))
    have h1 : longQ (k, if k = key then value else x) = longQ (k, x) := by
      have hx := h (k, x) (by simp)
      unfold longQ
      have e1 : decide (20000 < x.length) = false := by simpa using hx
      split
      · rw [show decide (20000 < value.length) = false by simpa using hv, e1]
      · rfl
    unfold longP at ih ⊢
    show (longQ (k, if k = key then value else x) || (substP key value l).any longQ) = (longQ (k, x) || l.any longQ)
    rw [h1, ih]
theorem RelK.write {key value : Tx} {s t : Sh} (h : RelK key s t) (ps : List (Tx × Tx)) (d : List Tx) (hv : value.length ≤ 20000) (hp : ∀ q ∈ ps, q.2.length ≤ 20000) :
    RelK key (writeF s ps d).1 (writeF t (substP key value ps) d).1 ∧ (writeF s ps d).2 = (writeF t (substP key value ps) d).2 := by
  have e1 : d.any (fun u => (getP (substP key value ps) u).isSome) = d.any (fun u => (getP ps u).isSome) := by
    congr 1
    funext u
    rw [substP_get]
    cases getP ps u <;> rfl
  unfold writeF
  rw [e1, substP_long key value hv ps hp]
  split
  · exact ⟨h, rfl⟩
  split
  · exact ⟨h, rfl⟩
  · refine ⟨⟨by show s.ver + 1 = t.ver + 1; rw [h.ver], by show s.clk + 1 = t.clk + 1; rw [h.clk], h.opn, h.rd, h.nrd, by show s.lim + ps.length = t.lim + (substP key value ps).length; rw [h.lim]; unfold substP; rw [List.length_map], fun u => ?_, fun u hu => ?_⟩, by show (s.ver + 1, 0) = (t.ver + 1, 0); rw [h.ver]⟩
    · show (putK _ _ _ _ u).map strip = (putK _ _ _ _ u).map strip
      rw [substP_keys, h.clk]
      unfold putK
      have hd : (dropK (t.clk + 1) s.keys d u).map strip = (dropK (t.clk + 1) t.keys d u).map strip := by
        unfold dropK
        split
        · rw [dropV_strip, dropV_strip, h.str u]
        · exact h.str u
      split
      · rw [List.map_append, List.map_append, hd]; rfl
      · exact hd
    · show putK _ _ _ _ u = putK _ _ _ _ u
      rw [substP_keys, h.clk]
      unfold putK dropK
      rw [h.oth u hu, substP_get]
      have : ((getP ps u).map fun x => if u = key then value else x) = getP ps u := by
        cases getP ps u with
        | none => rfl
        | some x => show some (if u = key then value else x) = some x; rw [if_neg hu]
      rw [this]
theorem RelK.held {key : Tx} {s t : Sh} (h : RelK key s t) : Sn.HeldIs s.keys = Sn.HeldIs t.keys := by
  funext n
  unfold Sn.HeldIs
  have hc : ∀ u, Sn.cnt (s.keys u) = Sn.cnt (t.keys u) := fun u => by rw [← cnt_strip, h.str u, cnt_strip]
  have hs : ∀ ks, Sn.sumK s.keys ks = Sn.sumK t.keys ks := fun ks => by
    unfold Sn.sumK
    congr 1
    exact List.map_congr_left (fun u _ => hc u)
  refine propext ⟨fun ⟨ks, a, b, c⟩ => ⟨ks, a, fun u hu => b u (fun e => hu ((nil_strip (h.str u)).1 e)), c.trans (hs ks)⟩, fun ⟨ks, a, b, c⟩ => ⟨ks, a, fun u hu => b u (fun e => hu ((nil_strip (h.str u)).2 e)), c.trans (hs ks).symm⟩⟩
theorem heldN_same {f g : Tx → List Sn.Val} (h : Sn.HeldIs f = Sn.HeldIs g) : heldN f = heldN g := by
  by_cases hx : ∃ n, Sn.HeldIs f n
  · obtain ⟨n, hn⟩ := hx
    rw [heldN_eq hn, heldN_eq (h ▸ hn)]
  · unfold heldN
    rw [dif_neg hx, dif_neg (by rw [← h]; exact hx)]
theorem RelK.times {key : Tx} {s t : Sh} (h : RelK key s t) {ts : List Nat} (ht : TimesOf s ts) : TimesOf t ts :=
  ⟨by rw [← h.clk]; exact ht.ck, fun c hc => by rw [← h.clk, ← h.rd]; exact ht.sub c hc, fun i c hi => ht.all i c (by rw [h.rd]; exact hi)⟩
theorem RelK.collect {key : Tx} {s t : Sh} (h : RelK key s t) (ts : List Nat) : RelK key (collectF s ts) (collectF t ts) :=
  ⟨h.ver, h.clk, h.opn, h.rd, h.nrd, h.lim, fun u => by
    show (Sn.colls (s.keys u) ts).map strip = (Sn.colls (t.keys u) ts).map strip
    rw [← colls_map (g := strip) (fun _ => rfl), ← colls_map (g := strip) (fun _ => rfl), h.str u], fun u hu => by
    show Sn.colls (s.keys u) ts = Sn.colls (t.keys u) ts
    rw [h.oth u hu]⟩
theorem RelK.forget {key : Tx} {s t : Sh} (h : RelK key s t) (k : Tx) : RelK key (forgetF s k).1 (forgetF t k).1 ∧ (forgetF s k).2 = (forgetF t k).2 := by
  have e : (s.keys k).any (fun v => !v.gone) = (t.keys k).any (fun v => !v.gone) := by rw [← any_strip, h.str k, any_strip]
  unfold forgetF
  rw [e]
  split
  · refine ⟨⟨h.ver, by show s.clk + 1 = t.clk + 1; rw [h.clk], h.opn, h.rd, h.nrd, h.lim, fun u => ?_, fun u hu => ?_⟩, rfl⟩
    · show List.map strip (setK s.keys k ((s.keys k).map Sn.fgt ++ [⟨s.clk + 1, [], true, false⟩]) u) = List.map strip (setK t.keys k ((t.keys k).map Sn.fgt ++ [⟨t.clk + 1, [], true, false⟩]) u)
      unfold setK
      split
      · have hm : ∀ l : List Sn.Val, (l.map Sn.fgt).map strip = (l.map strip).map Sn.fgt := fun l => by
          rw [List.map_map, List.map_map]
          exact List.map_congr_left (fun v _ => fgt_strip v)
        rw [List.map_append, List.map_append, hm, hm, h.str k, h.clk]
      · exact h.str u
    · show setK s.keys k ((s.keys k).map Sn.fgt ++ [⟨s.clk + 1, [], true, false⟩]) u = setK t.keys k ((t.keys k).map Sn.fgt ++ [⟨t.clk + 1, [], true, false⟩]) u
      unfold setK
      split
      · rename_i eu; rw [← eu, h.oth u hu, h.clk]
      · exact h.oth u hu
  · exact ⟨h, rfl⟩
theorem RelK.open_ {key : Tx} {s t : Sh} (h : RelK key s t) : RelK key (openF s).1 (openF t).1 ∧ (openF s).2 = (openF t).2 := by
  unfold openF
  rw [h.nrd]
  split
  · exact ⟨h, rfl⟩
  · exact ⟨⟨h.ver, h.clk, by show s.opn + 1 = t.opn + 1; rw [h.opn], by show setN _ _ _ = setN _ _ _; rw [h.rd, h.opn, h.clk], rfl, h.lim, h.str, h.oth⟩, by show (s.opn + 1, 0) = (t.opn + 1, 0); rw [h.opn]⟩
theorem RelK.close {key : Tx} {s t : Sh} (h : RelK key s t) (r : Nat) : RelK key (closeF s r).1 (closeF t r).1 ∧ (closeF s r).2 = (closeF t r).2 := by
  unfold closeF
  rw [h.rd]
  split
  · exact ⟨h, rfl⟩
  · exact ⟨⟨h.ver, h.clk, h.opn, rfl, by show s.nrd - 1 = t.nrd - 1; rw [h.nrd], h.lim, h.str, h.oth⟩, rfl⟩
/-- an operation with the other value -/
def swapO (key value : Tx) (o : OpV) : OpV := { o with value := if o.key = key then value else o.value, second := if o.other = key then value else o.second }
theorem swapO_put (key value : Tx) (o : OpV) : (swapO key value o).put = substP key value o.put := by
  unfold OpV.put swapO substP
  dsimp only
  split <;> rfl
theorem swap_step {key value : Tx} {s t : Sh} {k : Nat} (h : RelK key s t) (hI : Inv s k) (o : OpV) (hv : value.length ≤ 300) (ho : okOp o = true) :
    RelK key (doF s o).1 (doF t (swapO key value o)).1 ∧ (doF s o).2 = (doF t (swapO key value o)).2 := by
  have hlen : o.value.length ≤ 300 ∧ o.second.length ≤ 300 := by unfold okOp at ho; simp at ho; omega
  have hp : ∀ q ∈ o.put, q.2.length ≤ 20000 := fun q hq => by
    unfold OpV.put at hq
    split at hq
    · rcases List.mem_cons.1 hq with rfl | hq
      · show o.value.length ≤ 20000; omega
      · rw [List.mem_singleton.1 hq]; show o.second.length ≤ 20000; omega
    · rw [List.mem_singleton.1 hq]; show o.value.length ≤ 20000; omega
  have hw : ∀ d, RelK key (writeF s o.put d).1 (writeF t (swapO key value o).put d).1 ∧ (writeF s o.put d).2 = (writeF t (swapO key value o).put d).2 := fun d => by
    rw [swapO_put]; exact h.write o.put d (by omega) hp
  have hkd : (swapO key value o).kind = o.kind := rfl
  unfold doF
  rw [hkd]
  split
  · obtain ⟨a, b⟩ := hw []; exact ⟨a, by rw [b]⟩
  split
  · obtain ⟨a, b⟩ := hw [o.other]; exact ⟨a, by show (((writeF s o.put [o.other]).2.1 : Int), (writeF s o.put [o.other]).2.2) = _; rw [b]; rfl⟩
  split
  · obtain ⟨a, b⟩ := h.open_; exact ⟨a, by rw [b]⟩
  split
  · obtain ⟨a, b⟩ := h.close o.n; exact ⟨a, by show ((0 : Int), (closeF s o.n).2) = (0, (closeF t o.n).2); rw [b]⟩
  split
  · have ht := times_some hI
    have e := (times_eq (h.times ht)).1
    rw [← e]
    exact ⟨h.collect _, by rw [heldN_same h.held, heldN_same (h.collect (timesOf s)).held]⟩
  · obtain ⟨a, b⟩ := h.forget o.key; exact ⟨a, by show ((0 : Int), (forgetF s o.key).2) = (0, (forgetF t o.key).2); rw [b]⟩
/-- what has nothing has no text -/
def GE (s : Sh) : Prop := ∀ u, ∀ v ∈ s.keys u, v.gone = true → v.text = []
theorem GE.new : GE newS := fun u v hv => by cases hv
theorem GE.write {s : Sh} (h : GE s) (ps : List (Tx × Tx)) (d : List Tx) : GE (writeF s ps d).1 := by
  unfold writeF
  split
  · exact h
  split
  · exact h
  · intro u v hv hg
    have hv : v ∈ putK (s.clk + 1) (dropK (s.clk + 1) s.keys d) ps (ps.map (·.1)) u := hv
    have hd : v ∈ dropK (s.clk + 1) s.keys d u → v.text = [] := fun hv => by
      unfold dropK at hv
      split at hv
      · unfold dropV at hv
        split at hv
        · split at hv
          · exact h u v hv hg
          · rcases List.mem_append.1 hv with h1 | h1
            · exact h u v h1 hg
            · rw [List.mem_singleton.1 h1]
        · exact h u v hv hg
      · exact h u v hv hg
    unfold putK at hv
    split at hv
    · rcases List.mem_append.1 hv with h1 | h1
      · exact hd h1
      · rw [List.mem_singleton.1 h1] at hg; cases hg
    · exact hd hv
theorem GE.step {s : Sh} (h : GE s) (o : OpV) : GE (doF s o).1 := by
  unfold doF
  split
  · exact h.write _ _
  split
  · exact h.write _ _
  split
  · intro u v hv hg
    have hv : v ∈ (openF s).1.keys u := hv
    rw [(openF_keys s).1] at hv
    exact h u v hv hg
  split
  · show GE (closeF s o.n).1
    unfold closeF
    split
    · exact h
    · exact h
  split
  · intro u v hv hg
    exact h u v ((Sn.colls_sub _ _).subset hv) hg
  · show GE (forgetF s o.key).1
    unfold forgetF
    split
    · intro u v hv hg
      have hv : v ∈ setK s.keys o.key ((s.keys o.key).map Sn.fgt ++ [⟨s.clk + 1, [], true, false⟩]) u := hv
      unfold setK at hv
      split at hv
      · rcases List.mem_append.1 hv with h1 | h1
        · obtain ⟨x, hx, rfl⟩ := List.mem_map.1 h1
          unfold Sn.fgt at hg ⊢
          split
          · rename_i hxg; exact h _ x hx hxg
          · rfl
        · rw [List.mem_singleton.1 h1]
      · exact h u v hv hg
    · exact h
theorem strip_gone {v : Sn.Val} (h : v.text = []) : strip v = v := by cases v; cases h; rfl
theorem map_strip {l : List Sn.Val} (h : ∀ v ∈ l, v.text = []) : l.map strip = l := by
  induction l with
  | nil => rfl
  | cons a l ih => rw [List.map_cons, strip_gone (h a (by simp)), ih (fun v hv => h v (by simp [hv]))]
theorem RelK.same {key : Tx} {s t : Sh} (h : RelK key s t) (hk : s.keys key = t.keys key) : s = t := by
  obtain ⟨h1, h2, h3, h4, h5, h6, h7, h8⟩ := h
  have : s.keys = t.keys := by
    funext u
    by_cases e : u = key
    · rw [e, hk]
    · exact h8 u e
  cases s; cases t
  simp_all
/-- when the key has been forgotten on both, the shelves are the same -/
theorem RelK.forgotten {key : Tx} {s t : Sh} (h : RelK key s t) (gs : GE s) (gt : GE t) : (forgetF s key).1 = (forgetF t key).1 := by
  have hf := (h.forget key).1
  refine hf.same ?_
  have ef : ∀ {s : Sh}, GE s → ∀ v ∈ (forgetF s key).1.keys key, v.text = [] := fun {s} gs => by
    unfold forgetF
    split
    · intro v hv
      have hv : v ∈ setK s.keys key ((s.keys key).map Sn.fgt ++ [⟨s.clk + 1, [], true, false⟩]) key := hv
      rw [setK_self] at hv
      rcases List.mem_append.1 hv with h1 | h1
      · obtain ⟨x, hx, rfl⟩ := List.mem_map.1 h1
        unfold Sn.fgt
        split
        · rename_i hxg; exact gs _ x hx hxg
        · rfl
      · rw [List.mem_singleton.1 h1]
    · rename_i hn
      intro v hv
      refine gs _ v hv ?_
      cases hg : v.gone
      · exact absurd (List.any_eq_true.2 ⟨v, hv, by rw [hg]; rfl⟩) hn
      · rfl
  have := hf.str key
  rwa [map_strip (ef gs), map_strip (ef gt)] at this
theorem cur_mem {l : List Sn.Val} {c : Nat} {v : Sn.Val} (h : Sn.cur l c = some v) : v ∈ l := by
  unfold Sn.cur at h
  have := List.mem_of_getLast? h
  exact (List.mem_filter.1 this).1
/-- of a key that has been asked to be forgotten, with or without an error: nobody reads it -/
theorem forget_none {s : Sh} {k : Nat} (h : Inv s k) (t : Tx) (r : Nat) : (readF (forgetF s t).1 r t).2 ≠ 0 := by
  by_cases he : (forgetF s t).2 = 0
  · exact forget_reads h he r
  · unfold forgetF at he ⊢
    split
    · rename_i h1; rw [if_pos h1] at he; exact absurd rfl he
    · rename_i h1
      unfold readF
      cases hr : s.rd r with
      | none => simp
      | some c =>
        show (Sn.rdv (Sn.cur (s.keys t) c)).2 ≠ 0
        cases hc : Sn.cur (s.keys t) c with
        | none => simp [Sn.rdv]
        | some v =>
          have hg : v.gone = true := by
            cases hg : v.gone
            · exact absurd (List.any_eq_true.2 ⟨v, cur_mem hc, by rw [hg]; rfl⟩) h1
            · rfl
          unfold Sn.rdv
          dsimp only
          rw [hg]
          cases v.forgot <;> simp
theorem ShPost.pair {u w' : World} {p q B : Nat} {F G : Nat → Prop} {s t : Sh} (h : ShPost u p F s w') (hG : ShAt u q G t) (hd : ∀ g, F g → ¬ G g) (hF : ∀ g, F g → B ≤ g) (hB : B ≤ u.heap.size) :
    ∃ F', ShAt w' p F' s ∧ ShAt w' q G t ∧ (∀ g, F' g → ¬ G g) ∧ (∀ g, F' g → B ≤ g) ∧ Below B u w' ∧ ∀ g, F' g → F g ∨ u.heap.size ≤ g := by
  have GL : ∀ g, G g → g < u.heap.size := by obtain ⟨bm, br, nk, hd, hh⟩ := hG; exact hh.lt
  obtain ⟨F', h1, h2, h3⟩ := h
  exact ⟨F', h1, hG.but h3 (fun g hg hf => hd g hf hg), fun g hg hgG => (h2 g hg).elim (fun e => hd g e hgG) (fun e => by have := GL g hgG; omega), fun g hg => (h2 g hg).elim (hF g) (fun e => Nat.le_trans hB e), h3.below hB hF, h2⟩
end Go.Proofs.Ytfhgidbmeifflaa
