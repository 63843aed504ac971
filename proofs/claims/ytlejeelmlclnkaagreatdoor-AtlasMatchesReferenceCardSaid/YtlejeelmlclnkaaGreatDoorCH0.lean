/- WORDS: atlas.Patch: differences in memory, the second loop's state. -/
import Derived.Test.YtlejeelmlclnkaaGreatDoorBS
set_option linter.unusedSimpArgs false
set_option linter.unusedVariables false
namespace Go.Proofs.YtlejeelmlclnkaaGreatDoor
open Go.RowKit

/-- the cells of a difference, its slices written out -/
def dlL (d : DV) (A1 : Option Addr) (q1 : Nat) (A2 : Option Addr) (q2 : Nat) (A3 : Option Addr) (q3 : Nat) (A4 : Option Addr) (q4 : Nat) : List Value :=
  [.string (mkB d.id), .bool d.was, .bool d.is, .string (mkB d.o.c.id), .int .i64 d.o.c.kind, .int .i64 d.o.c.x, .int .i64 d.o.c.y, .slice A1 d.o.c.refs.length q1, .slice A2 d.o.c.tags.length q2, .string (mkB d.n.c.id), .int .i64 d.n.c.kind, .int .i64 d.n.c.x, .int .i64 d.n.c.y, .slice A3 d.n.c.refs.length q3, .slice A4 d.n.c.tags.length q4]
theorem dvC_eq {d : DV} {A1 A2 A3 A4 : Option Addr} {q1 q2 q3 q4 : Nat} (v1 : d.o.rv = .slice A1 d.o.c.refs.length q1) (v2 : d.o.tv = .slice A2 d.o.c.tags.length q2) (v3 : d.n.rv = .slice A3 d.n.c.refs.length q3) (v4 : d.n.tv = .slice A4 d.n.c.tags.length q4) : dvC d = dlL d A1 q1 A2 q2 A3 q3 A4 q4 := by
  unfold dvC roC dlL
  rw [v1, v2, v3, v4]; rfl
/-- a list of differences -/
structure Dm (w : World) (A : Option Addr) (l : List DV) : Prop where
  rd : Rd w A (dvsC l)
  is : ∀ d ∈ l, DvIs w d
  sz : ∀ d ∈ l, DvSz d
  len : l.length ≤ 10000
theorem Dm.below {w w' : World} {A : Option Addr} {l : List DV} (h : Dm w A l) (hb : Below w.heap.size w w') : Dm w' A l := ⟨h.rd.below hb, fun d hd => (h.is d hd).below hb, h.sz, h.len⟩
theorem dvs_at {w : World} {A : Option Addr} {l : List DV} (h : Rd w A (dvsC l)) {k : Nat} (hk : k < l.length) :
    ∃ b off, A = some ⟨b, off, none⟩ ∧ b < w.heap.size ∧ ∀ f u, (dvC l[k])[f]? = some u → w.cell? ⟨b, off + k * 15 + f, none⟩ = some u := by
  obtain ⟨b, off, e, hb, hc⟩ := h (by rw [dvsC_len]; omega)
  exact ⟨b, off, e, hb, fun f u hu => by have := hc (k * 15 + f) u (flat_get dvC 15 (fun _ => rfl) hk hu); rwa [← Nat.add_assoc] at this⟩
theorem deltas_drop (l : List DV) (last : Tx) {k : Nat} (h : k < l.length) :
    At.deltasFrom last ((l.drop k).map DV.d) = (At.lt last l[k].id && At.okD l[k].d && At.deltasFrom l[k].id ((l.drop (k + 1)).map DV.d)) := by
  rw [List.drop_eq_getElem_cons h]; rfl
/-- between two steps of the second loop: what is left of the map lies in its box, what is put out in the box bo -/
def PS (w : World) (bo : Nat) (u : World) (l : List RO) (ds : List DV) (R : List At.Ob × Nat) (k : Nat) : Prop :=
  ∃ (A : Option Addr) (c : Nat) (Lr : List RO) (vo : Value) (Ou : List RO),
    u.heap[w.heap.size]? = some (.cells #[.slice A Lr.length c] 24 (0, 0)) ∧ Rd w A (rosC Lr) ∧ (∀ r ∈ Lr, ObIs w r) ∧ Lr.length ≤ c ∧ At.Srt (cts Lr) ∧
    u.heap[bo]? = some (.cells #[vo] 24 (0, 0)) ∧ u.ownsRow (bo + 1) 43 6 vo Ou.length (rosC Ou) ∧
    u.heap[w.heap.size + 1]? = some (.cells #[.slice none 0 0] 24 (0, 0)) ∧ (∀ r ∈ Ou, ObIs w r ∧ ObSz r.c ∧ r.c.refs.length ≤ 100000) ∧ Ou.length + Lr.length ≤ l.length + k ∧
    R = (match At.patchGo (cts Ou) (cts Lr) ((ds.drop k).map DV.d) with | none => ([], 12) | some r => (r, 0)) ∧ (∀ r ∈ Lr, ObSz r.c ∧ r.c.refs.length ≤ 100000) ∧ Lr.length ≤ l.length ∧ Below w.heap.size w u
/-- append of all elements of a slice that reads as a list, at a step of a region that draws its order -/
theorem step_appRS {P : Program} {ops : Array Oper} {o : Oper} {a : Act} {K : Act → World → Prop} {Q : Exit → Act → World → Prop} {E : Prop} {w : World} (hwant : Region.wanted o (yielded ops a.tmps) = true) (s x : Operand) (t : TypeId)
    (ho : o.op = .call { callee := .builtin .append, args := #[s, x], argTypes := #[t, t] }) {e : TypeId} {z : Value} {size bytes : Nat}
    (ht : P.underlying t = some (.slice e)) (hinfo : (P.info? e).map (fun i => (i.zero, i.size, i.bytes)) = some (some z, size, bytes)) (hzs : z.cells.size = size) (hsz : 0 < size)
    (base : Nat) (v : Value) (n : Nat) (xs : List Value) (A : Option Addr) (m c : Nat) (news : List Value) (h1 : ∀ u ∈ news, u.oneCell' = true)
    (hs : a.eval s = v) (hx : a.eval x = .slice A m c) (hown : w.ownsRow base e size v n xs) (hr : Rd w A news) (hm : news.length = m * size) (hb : base ≤ w.heap.size)
    (hbytes : (n + m) * bytes ≤ 140737488355328) (hmax : n + m ≤ 9223372036854775807)
    (h : ∀ v' w', w'.ownsRow base e size v' (n + m) (xs ++ news) → Below base w w' → w.grownBy w' v.ownBlock → K (a.put o.dst v') w') :
    if Region.wanted o (yielded ops a.tmps) = true then Oper.wp P o a w K Q else E := by
  obtain ⟨i, hi, hz, hsi, hby⟩ := info_parts hinfo
  rw [if_pos hwant]
  have fin : ∀ v' w', (Builtin.append_ #[t, t] o.type #[v, .slice A m c]).run P w = .ok v' w' → w'.ownsRow base e size v' (n + m) (xs ++ news) → w.grownBy w' v.ownBlock → Oper.wp P o a w K Q := by
    intro v' w' hrun ho' hg
    have hK := h v' w' ho' (grown_below hg (fun k hk => (hown.lt k hk).1) hb) hg
    unfold Oper.wp execOp
    simp only [ho, resolve, invoke, builtin, Sem.run_bind, Sem.run_pure, Result.andThen_ok, List.map_toArray, List.map_cons, List.map_nil, hs, hx, hrun]
    exact hK
  cases A with
  | none =>
    have h0 : m = 0 := by
      rcases Nat.eq_zero_or_pos m with h0 | h0
      · exact h0
      · obtain ⟨b, off, e, _⟩ := hr (by rw [hm]; exact Nat.mul_pos h0 hsz); cases e
    have hn0 : news = [] := List.eq_nil_of_length_eq_zero (by rw [hm, h0]; simp)
    subst h0 hn0
    refine fin v w ?_ (by simpa using hown) (World.grownBy.refl _ _)
    exact run_append_none_ w ht hi hown c
  | some ad =>
    obtain ⟨v', w', hr', h2, h3, _, h5⟩ := run_append_own_at (P := P) w base t o.type e i z size bytes ht hi hz hsi hby hzs hsz v n xs hown ad m c news hm (by
      intro j u hu
      have hj := (List.getElem?_eq_some_iff.1 hu).1
      obtain ⟨b, off, e, _, hc⟩ := hr (by omega)
      cases e
      rw [Addr.add_lit]
      exact hc j u hu) h1 (by simpa [maxLen] using hmax) hbytes hb
    exact fin v' w' hr' h2 h3
theorem cts_take (l : List RO) (i : Nat) : cts (l.take i) = (cts l).take i := by simp [cts, List.map_take]
theorem cts_drop (l : List RO) (i : Nat) : cts (l.drop i) = (cts l).drop i := by simp [cts, List.map_drop]
theorem rd_from {w : World} {A : Option Addr} {c p : Nat} {l : List RO} (h : Rd w A (rosC l)) (hp : p ≤ l.length) (hc : l.length ≤ c) : Rd w (if c = p then A else A.map (·.add (p * 6))) (rosC (l.drop p)) := by
  by_cases hl : p = l.length
  · rw [hl, List.drop_length]; exact Rd.nil_ _ _
  · intro hpos
    obtain ⟨b, off, e, hb, hcc⟩ := h (by rw [rosC_len]; omega)
    refine ⟨b, off + p * 6, ?_, hb, ?_⟩
    · rw [if_neg (by omega), e, Option.map_some, Addr.add_lit]
    · intro j u hu
      rw [rosC_drop, List.getElem?_drop] at hu
      have := hcc _ _ hu
      rwa [← Nat.add_assoc] at this
theorem rd_upto {w : World} {A : Option Addr} {p : Nat} {l : List RO} (h : Rd w A (rosC l)) : Rd w A (rosC (l.take p)) := by
  intro hpos
  obtain ⟨b, off, e, hb, hcc⟩ := h (by rw [rosC_len, List.length_take] at hpos; rw [rosC_len]; omega)
  refine ⟨b, off, e, hb, ?_⟩
  intro j u hu
  rw [rosC_take, List.getElem?_take] at hu
  split at hu
  · exact hcc _ _ hu
  · cases hu
theorem PS.next {w u : World} {bo : Nat} {l : List RO} {ds : List DV} {R : List At.Ob × Nat} {k : Nat} {Lr Ou : List RO} {A : Option Addr} {c n2 : Nat} {vo vm : Value} (hn2 : n2 = Lr.length) (hbo : w.heap.size + 2 ≤ bo) (gB : Below w.heap.size w u)
    (h0 : u.heap[w.heap.size]? = some (.cells #[vm] 24 (0, 0))) (h2 : u.heap[bo]? = some (.cells #[vo] 24 (0, 0))) (h4 : u.heap[w.heap.size + 1]? = some (.cells #[.slice none 0 0] 24 (0, 0)))
    (hW : u.ownsRow (bo + 1) 43 6 vo Ou.length (rosC Ou)) (hR : Rd w A (rosC Lr)) (hL : ∀ r ∈ Lr, ObIs w r ∧ ObSz r.c ∧ r.c.refs.length ≤ 100000) (hc : Lr.length ≤ c) (hS : At.Srt (cts Lr))
    (hO : ∀ r ∈ Ou, ObIs w r ∧ ObSz r.c ∧ r.c.refs.length ≤ 100000) (hl : Ou.length + Lr.length ≤ l.length + (k + 1)) (hl2 : Lr.length ≤ l.length)
    (hP : R = (match At.patchGo (cts Ou) (cts Lr) ((ds.drop (k + 1)).map DV.d) with | none => ([], 12) | some r => (r, 0))) :
    PS w bo (u.setCell ⟨w.heap.size, 0, none⟩ (.slice A n2 c)) l ds R (k + 1) := by
  subst hn2
  refine ⟨A, c, Lr, vo, Ou, one_setCell h0, hR, fun r hr => (hL r hr).1, hc, hS, (Below.heap_setCell _ _ _ _ (by show bo ≠ w.heap.size; omega)).trans h2, own_same hW (fun g hg => Below.heap_setCell _ _ _ _ (fun e => by have := (hW.lt g hg).1; have e' : g = w.heap.size := e; omega)), (Below.heap_setCell _ _ _ _ (by show w.heap.size + 1 ≠ w.heap.size; omega)).trans h4, hO, hl, hP, fun r hr => (hL r hr).2, hl2, gB.setCell (Nat.le_refl _) _⟩
end Go.Proofs.YtlejeelmlclnkaaGreatDoor
