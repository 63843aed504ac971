/- WORDS: Write, plainly; a value put behind a history. -/
import Derived.Test.YtfhgidbmeifflaaNG
set_option linter.unusedSimpArgs false
set_option linter.unusedVariables false
namespace Go.Proofs.Ytfhgidbmeifflaa
open Go.RowKit Go.Maps Go.ChangeMaps Go.MapKept Go.WideShapes Go.WideMaps

abbrev Tx := List UInt8
/-- what a list of pairs has for a key -/
def getP : List (Tx × Tx) → Tx → Option Tx
  | [], _ => none
  | (k, x) :: l, t => if t = k then some x else getP l t
theorem getP_mem : ∀ {ps : List (Tx × Tx)} {t x : Tx}, getP ps t = some x → (t, x) ∈ ps
  | [], _, _, h => by cases h
  | (k, y) :: l, t, x, h => by
    rw [getP] at h
    split at h
    · rename_i e; cases h; rw [e]; simp
    · exact List.mem_cons_of_mem _ (getP_mem h)
theorem mem_getP : ∀ {ps : List (Tx × Tx)} {t x : Tx}, (ps.map (·.1)).Nodup → (t, x) ∈ ps → getP ps t = some x
  | [], _, _, _, h => by cases h
  | (k, y) :: l, t, x, hn, h => by
    rw [List.map_cons, List.nodup_cons] at hn
    rw [getP]
    rcases List.mem_cons.1 h with e | e
    · cases e; rw [if_pos rfl]
    · rw [if_neg (fun h' => hn.1 (by rw [← h']; exact List.mem_map.2 ⟨_, e, rfl⟩))]
      exact mem_getP hn.2 e
def putM (ps : List (Tx × Tx)) : Lit → Option Value
  | .string t => (getP ps t).map fun x => .string (mkB x)
  | _ => none
theorem putM_inv {ps : List (Tx × Tx)} {kl : Lit} {v : Value} (h : putM ps kl = some v) : ∃ t x, kl = .string t ∧ getP ps t = some x ∧ v = .string (mkB x) := by
  cases kl with
  | string t =>
    have h : (getP ps t).map (fun x => Value.string (mkB x)) = some v := h
    cases e : getP ps t with
    | none => rw [e] at h; cases h
    | some x => rw [e] at h; cases h; exact ⟨t, x, rfl, e, rfl⟩
  | _ => cases h
def longD (d : List Tx) : Bool := d.any fun t => decide (200 < t.length)
def longQ (q : Tx × Tx) : Bool := decide (200 < q.1.length) || decide (20000 < q.2.length)
def longP (ps : List (Tx × Tx)) : Bool := ps.any longQ
def dropV (c : Nat) (l : List Sn.Val) : List Sn.Val :=
  match l.getLast? with
  | some v => if v.gone then l else l ++ [⟨c, [], true, false⟩]
  | none => l
theorem dropV_nil (c : Nat) : dropV c [] = [] := rfl
theorem dropV_gone {c : Nat} {l : List Sn.Val} {v : Sn.Val} (h : l.getLast? = some v) (hg : v.gone = true) : dropV c l = l := by
  unfold dropV; rw [h]; simp [hg]
theorem dropV_live {c : Nat} {l : List Sn.Val} {v : Sn.Val} (h : l.getLast? = some v) (hg : v.gone = false) : dropV c l = l ++ [⟨c, [], true, false⟩] := by
  unfold dropV; rw [h]; simp [hg]
theorem dropV_twice (c : Nat) (l : List Sn.Val) : dropV c (dropV c l) = dropV c l := by
  cases e : l.getLast? with
  | none => have : l = [] := by simpa using e
            subst this; rfl
  | some v =>
    cases hg : v.gone
    · rw [dropV_live e hg]
      exact dropV_gone (v := ⟨c, [], true, false⟩) (by simp) rfl
    · rw [dropV_gone e hg, dropV_gone e hg]
/-- the histories when the keys of d have been dropped -/
def dropK (c : Nat) (f : Tx → List Sn.Val) (d : List Tx) : Tx → List Sn.Val := fun t => if t ∈ d then dropV c (f t) else f t
theorem dropK_nil (c : Nat) (f : Tx → List Sn.Val) : dropK c f [] = f := by funext t; simp [dropK]
theorem dropK_step (c : Nat) (f : Tx → List Sn.Val) (d : List Tx) (t : Tx) : dropK c f (d ++ [t]) = setK (dropK c f d) t (dropV c (dropK c f d t)) := by
  funext u
  unfold dropK setK
  by_cases e : u = t
  · subst e
    simp only [List.mem_append, List.mem_singleton, or_true, if_true]
    by_cases h : u ∈ d
    · rw [if_pos h, dropV_twice]
    · rw [if_neg h]
  · simp only [List.mem_append, List.mem_singleton, e, or_false, if_false]
/-- the histories when the pairs of the keys 'done' have been put -/
def putK (c : Nat) (f : Tx → List Sn.Val) (ps : List (Tx × Tx)) (done : List Tx) : Tx → List Sn.Val := fun t => if t ∈ done then f t ++ [⟨c, (getP ps t).getD [], false, false⟩] else f t
theorem putK_nil (c : Nat) (f : Tx → List Sn.Val) (ps : List (Tx × Tx)) : putK c f ps [] = f := by funext t; simp [putK]
theorem putK_step (c : Nat) (f : Tx → List Sn.Val) (ps : List (Tx × Tx)) {done : List Tx} {t x : Tx} (hn : t ∉ done) (hx : getP ps t = some x) : putK c f ps (t :: done) = setK (putK c f ps done) t (putK c f ps done t ++ [⟨c, x, false, false⟩]) := by
  funext u
  unfold putK setK
  by_cases e : u = t
  · subst e
    rw [if_pos (by simp), if_pos rfl, if_neg hn, hx]; rfl
  · by_cases h : u ∈ done
    · rw [if_pos (by simp [h]), if_neg e]; exact (if_pos h).symm
    · rw [if_neg (by simp [h, e]), if_neg e]; exact (if_neg h).symm
/-- Write, plainly -/
def writeF (s : Sh) (ps : List (Tx × Tx)) (d : List Tx) : Sh × Nat × Nat :=
  if d.any (fun t => (getP ps t).isSome) then (s, 0, 1)
  else if longD d || longP ps then (s, 0, 2)
  else ({ s with ver := s.ver + 1, clk := s.clk + 1, keys := putK (s.clk + 1) (dropK (s.clk + 1) s.keys d) ps (ps.map (·.1)), lim := s.lim + ps.length }, s.ver + 1, 0)
theorem putK_same (c : Nat) (f : Tx → List Sn.Val) (ps : List (Tx × Tx)) {a b : List Tx} (h : ∀ t, t ∈ a ↔ t ∈ b) : putK c f ps a = putK c f ps b := by
  funext t
  unfold putK
  by_cases ha : t ∈ a
  · rw [if_pos ha, if_pos ((h t).1 ha)]
  · rw [if_neg ha, if_neg (fun hb => ha ((h t).2 hb))]
/-- what a history has, to be appended to -/
theorem ShMem.own {w : World} {p : Nat} {F : Nat → Prop} {s : Sh} {bm br nk : Nat} {hd : List UInt8 → Option Value} (h : ShMem w p F s bm br nk hd) (t : List UInt8) :
    w.ownsRow 0 62 4 ((hd t).getD (.slice none 0 0)) (s.keys t).length (rows (s.keys t)) := by
  cases e : hd t with
  | none => rw [h.none_ t e]; exact World.ownsRow_nil _ _ _ _
  | some v => exact (h.row t v e).2
/-- append of one struct that has just been laid in a block of its own: where the result lies -/
theorem step_appV {P : Program} {ops : Array Oper} {o : Oper} {a : Act} {K : Act → World → Prop} {Q : Exit → Act → World → Prop} {E : Prop} (hgd : o.guard = none) (s x : Operand) (t : TypeId)
    (ho : o.op = .call { callee := .builtin .append, args := #[s, x], argTypes := #[t, t] }) {e : TypeId} {z : Value} {size bytes : Nat}
    (ht : P.underlying t = some (.slice e)) (hinfo : (P.info? e).map (fun i => (i.zero, i.size, i.bytes)) = some (some z, size, bytes)) (hzs : z.cells.size = size) (hsz : 0 < size)
    (v : Value) (n : Nat) (xs : List Value) (w0 : World) (cs : Array Value) (hcs : cs.size = 1 * size) (h1 : ∀ u ∈ cs.toList, u.oneCell' = true)
    (hs : a.eval s = v) {g : Nat} (hx : a.eval x = .slice (some ⟨g, 0, none⟩) 1 1) (hg : w0.heap.size = g) (hown : w0.ownsRow 0 e size v n xs)
    (hbytes : (n + 1) * bytes ≤ 140737488355328) (hmax : n + 1 ≤ 9223372036854775807)
    (h : ∀ g' c w', w'.ownsRow 0 e size (.slice (some ⟨g', 0, none⟩) (n + 1) c) (n + 1) (xs ++ cs.toList) → (w0.alloc (.cells cs e)).grownBy w' v.ownBlock → (v.ownBlock = some g' ∨ w0.heap.size ≤ g') → K (a.put o.dst (.slice (some ⟨g', 0, none⟩) (n + 1) c)) w') :
    if Region.wanted o (yielded ops a.tmps) = true then Oper.wp P o a (w0.alloc (.cells cs e)) K Q else E := by
  subst hg
  obtain ⟨i, hi, hz, hsi, hby⟩ := info_parts hinfo
  refine step_append_lies (w0.alloc (.cells cs e)) hgd s x t ho 0 e i z size bytes ht hi hz hsi hby hzs hsz v n xs hs (hown.alloc _) ⟨w0.heap.size, 0, none⟩ 1 1 cs.toList hx (by simpa using hcs)
    (World.news_of_block (cs := cs) (t := e) (fr := (0, 0)) (heap_alloc_new w0 _)) h1 (by omega) (by simpa [maxLen] using hmax) hbytes (Nat.zero_le _) _ rfl ?_
  intro g cap w' hown' hg hgo _
  exact h _ _ w' hown' hg (hgo.imp id (fun e => by rw [e]; simp))
end Go.Proofs.Ytfhgidbmeifflaa
