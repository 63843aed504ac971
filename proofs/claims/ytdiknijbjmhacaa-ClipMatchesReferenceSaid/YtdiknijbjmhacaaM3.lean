/- WALKS: the reference's Line: what its parts are in memory. -/
import Derived.Test.YtdiknijbjmhacaaH0
import Derived.Test.YtdiknijbjmhacaaL4
set_option linter.unusedSimpArgs false
set_option linter.unusedVariables false
namespace Go.Proofs.Ytdiknijbjmhacaa
open Go.RowKit

theorem own_made (w : World) (cs : Array Value) (e : TypeId) {n size base : Nat} (hb : base ≤ w.heap.size) (hc : cs.size = n * size) (hn : n ≤ maxLen) : (w.alloc (.cells cs e)).ownsRow base e size (.slice (some ⟨w.heap.size, 0, none⟩) n n) n cs.toList :=
  ⟨by simp [hc], .inr ⟨w.heap.size, n, cs, rfl, hb, heap_alloc_new w _, Nat.le_refl _, hn, hc, by rw [List.take_of_length_le (by simp [hc])]⟩⟩
theorem own_put {w : World} {base : Nat} {e : TypeId} {n g c : Nat} {xs : List Value} (h : w.ownsRow base e 1 (.slice (some ⟨g, 0, none⟩) n c) n xs) {k : Nat} (hk : k < n) (u : Value) :
    (w.setCell ⟨g, k, none⟩ u).ownsRow base e 1 (.slice (some ⟨g, 0, none⟩) n c) n (xs.set k u) := by
  refine ⟨by simpa using h.1, ?_⟩
  rcases h.2 with ⟨hv, _⟩ | ⟨g', cap, cur, hv, h1, h2, h3, h4, h5, h6⟩
  · cases hv
  · injection hv with e1 _ e3
    injection e1 with e1
    injection e1 with e1
    subst e1 e3
    refine .inr ⟨g, c, cur.setIfInBounds k u, rfl, h1, ?_, h3, h4, by simpa using h5, ?_⟩
    · simp [World.setCell, Array.getElem?_modify, h2]
    · rw [← h6, Nat.mul_one, Array.toList_setIfInBounds, List.take_set]
theorem own_blk {w : World} {base size n g c : Nat} {e : TypeId} {xs : List Value} (h : w.ownsRow base e size (.slice (some ⟨g, 0, none⟩) n c) n xs) : base ≤ g ∧ ∃ cur, w.heap[g]? = some (.cells cur e (0, 0)) := by
  rcases h.2 with ⟨hv, _⟩ | ⟨g', cap, cur, hv, h1, h2, _⟩
  · cases hv
  · injection hv with e1 _ e3
    injection e1 with e1
    injection e1 with e1
    subst e1
    exact ⟨h1, cur, h2⟩
/-- an owned row of points is a part -/
theorem PartAt.of_own {w : World} {hi top base : Nat} {v : Value} {p : List Cl.Pt} (h : w.ownsRow hi 24 2 v p.length (p.flatMap ptCells)) (hn : 0 < p.length) (hb : base ≤ hi) (ht : w.heap.size ≤ top) : PartAt w base top v p := by
  obtain ⟨A, c, rfl, h1, h2⟩ := own_form h
  obtain ⟨g, rfl⟩ : ∃ g, A = some ⟨g, 0, none⟩ := by
    rcases h.2 with ⟨hv, h0⟩ | ⟨g, cap, cur, hv, _⟩
    · omega
    · injection hv with e1 _ _; exact ⟨g, e1⟩
  obtain ⟨h3, cur, h4⟩ := own_blk h
  exact ⟨g, 0, c, rfl, by omega, by have := lt_of_block h4; omega, PtRow.of_own h, h1, h2⟩

/-- the parts, of which the last one may still grow -/
structure RS (w : World) (base hi : Nat) (vo : Value) (vs : List Value) (P : List (List Cl.Pt)) : Prop where
  hb : base ≤ hi
  hh : hi ≤ w.heap.size
  len : vs.length = P.length
  out : w.ownsRow base 22 1 vo P.length vs
  old : ∀ (i : Nat) (v : Value) (p : List Cl.Pt), i + 1 < P.length → vs[i]? = some v → P[i]? = some p → PartAt w base hi v p
  now : ∀ (i : Nat) (v : Value) (p : List Cl.Pt), i + 1 = P.length → vs[i]? = some v → P[i]? = some p → w.ownsRow hi 24 2 v p.length (p.flatMap ptCells) ∧ 0 < p.length
theorem RS.nil_ (w : World) {base : Nat} (h : base ≤ w.heap.size) : RS w base base (.slice none 0 0) [] [] :=
  ⟨Nat.le_refl _, h, rfl, World.ownsRow_nil _ _ _ _, fun i v p hi => by simp at hi, fun i v p hi => by simp at hi⟩
theorem RS.below {w w' : World} {base hi : Nat} {vo : Value} {vs : List Value} {P : List (List Cl.Pt)} (h : RS w base hi vo vs P) (hb : Below w.heap.size w w') : RS w' base hi vo vs P :=
  ⟨h.hb, Nat.le_trans h.hh hb.size, h.len, own_keep h.out fun k cs _ hc => hb.block k (lt_of_block hc), fun i v p h1 h2 h3 => (h.old i v p h1 h2 h3).keep fun k _ _ hk => hb.block k hk.lt,
   fun i v p h1 h2 h3 => ⟨own_keep (h.now i v p h1 h2 h3).1 fun k cs _ hc => hb.block k (lt_of_block hc), (h.now i v p h1 h2 h3).2⟩⟩
theorem sl_pt : (22 : TypeId) ≠ 24 := by decide
theorem pt_sl : (24 : TypeId) ≠ 22 := by decide
/-- a part more -/
theorem RS.push {w w' : World} {base hi : Nat} {vo v' : Value} {vs : List Value} {P : List (List Cl.Pt)} {ax ay bx by' : Int} (h : RS w base hi vo vs P)
    (ho : w'.ownsRow base 22 1 v' (P.length + 1) (vs ++ [.slice (some ⟨w.heap.size, 0, none⟩) 2 2]))
    (hg : ((w.alloc (.cells #[.int .i64 ax, .int .i64 ay, .int .i64 bx, .int .i64 by'] 24)).alloc (.cells #[.slice (some ⟨w.heap.size, 0, none⟩) 2 2] 22)).grownBy w' vo.ownBlock) (hsz : w.heap.size ≤ w'.heap.size) :
    RS w' base w.heap.size v' (vs ++ [.slice (some ⟨w.heap.size, 0, none⟩) 2 2]) (P ++ [[(ax, ay), (bx, by')]]) := by
  have o1 := h.out.alloc (.cells #[.int .i64 ax, .int .i64 ay, .int .i64 bx, .int .i64 by'] 24)
  have o2 := o1.alloc (.cells #[.slice (some ⟨w.heap.size, 0, none⟩) 2 2] 22)
  have key1 : ∀ k cs, (w.alloc (.cells #[.int .i64 ax, .int .i64 ay, .int .i64 bx, .int .i64 by'] 24)).heap[k]? = some (Obj.cells cs 24 (0, 0)) → w'.heap[k]? = some (Obj.cells cs 24 (0, 0)) := fun k cs hc =>
    blk_keep hg o2 ((alloc_old _ _ (lt_of_block hc)).trans hc) sl_pt
  have key : ∀ k, PtBlk w k → w'.heap[k]? = w.heap[k]? := fun k ⟨cs, hc⟩ => by rw [hc]; exact key1 k cs ((alloc_old _ _ (lt_of_block hc)).trans hc)
  have hl := h.len
  refine ⟨Nat.le_trans h.hb h.hh, hsz, by simp [hl], by simpa using ho, fun i v p h1 h2 h3 => ?_, fun i v p h1 h2 h3 => ?_⟩
  · rw [List.length_append, List.length_singleton] at h1
    rw [List.getElem?_append_left (by omega)] at h2 h3
    rcases Nat.lt_or_ge (i + 1) P.length with hi | hi
    · exact ((h.old i v p hi h2 h3).keep fun k _ _ hk => key k hk).wide h.hh
    · obtain ⟨g1, g2⟩ := h.now i v p (by omega) h2 h3
      exact (PartAt.of_own g1 g2 h.hb (Nat.le_refl _)).keep fun k _ _ hk => key k hk
  · rw [List.length_append, List.length_singleton] at h1
    have hi : i = P.length := by omega
    subst hi
    rw [List.getElem?_append_right (by omega), hl, Nat.sub_self] at h2
    rw [List.getElem?_append_right (by omega), Nat.sub_self] at h3
    cases h2; cases h3
    refine ⟨?_, by simp⟩
    have o3 := own_made w #[.int .i64 ax, .int .i64 ay, .int .i64 bx, .int .i64 by'] 24 (n := 2) (size := 2) (base := w.heap.size) (Nat.le_refl _) rfl (by simp [maxLen])
    exact own_keep o3 fun k cs _ hc => by rw [hc]; exact key1 k cs hc
/-- the last part grows -/
theorem RS.grow {w w' : World} {base hi go c : Nat} {vl v' : Value} {vs : List Value} {ps : List (List Cl.Pt)} {last : List Cl.Pt} {n : Nat} {ax ay bx by' : Int} (h : RS w base hi (.slice (some ⟨go, 0, none⟩) n c) vs (ps ++ [last])) (hn : n = ps.length + 1)
    (hv : vs[ps.length]? = some vl) (ho : w'.ownsRow hi 24 2 v' (last.length + 2) (last.flatMap ptCells ++ [.int .i64 ax, .int .i64 ay, .int .i64 bx, .int .i64 by']))
    (hg : (w.alloc (.cells #[.int .i64 ax, .int .i64 ay, .int .i64 bx, .int .i64 by'] 24)).grownBy w' vl.ownBlock) (hsz : w.heap.size ≤ w'.heap.size) :
    RS (w'.setCell ⟨go, ps.length, none⟩ v') base hi (.slice (some ⟨go, 0, none⟩) n c) (vs.set ps.length v') (ps ++ [last ++ [(ax, ay), (bx, by')]]) := by
  have hP : (ps ++ [last]).length = ps.length + 1 := by simp
  have hlast : (ps ++ [last])[ps.length]? = some last := by rw [List.getElem?_append_right (by omega), Nat.sub_self]; rfl
  obtain ⟨n1, n2⟩ := h.now ps.length vl last (by rw [hP]) hv hlast
  have o1 := n1.alloc (.cells #[.int .i64 ax, .int .i64 ay, .int .i64 bx, .int .i64 by'] 24)
  have out := h.out
  rw [hP, ← hn] at out
  obtain ⟨b1, cur, b2⟩ := own_blk out
  have own' : ∀ r, vl.ownBlock = some r → hi ≤ r := fun r hr => (n1.lt r hr).1
  have blkSL : ∀ k cs, w.heap[k]? = some (Obj.cells cs 22 (0, 0)) → w'.heap[k]? = w.heap[k]? := fun k cs hc => by
    rw [hc]; exact blk_keep hg o1 ((alloc_old _ _ (lt_of_block hc)).trans hc) pt_sl
  have out' : w'.ownsRow base 22 1 (.slice (some ⟨go, 0, none⟩) n c) n vs := own_keep out fun k cs _ hc => blkSL k cs hc
  have low : ∀ k, k < hi → k < w.heap.size → w'.heap[k]? = w.heap[k]? := fun k hk hk2 => (hg.block k (by simp; omega) (fun e => by have := own' k e.symm; omega)).trans (alloc_old _ _ hk2)
  have nego : ∀ (u : World) k, PtBlk u k → u.heap[go]? = some (.cells cur 22 (0, 0)) → k ≠ go := fun u k ⟨cs, hc⟩ hgo e => by
    subst e; rw [hc] at hgo; injection hgo with hgo; injection hgo with _ hgo _; exact pt_sl hgo
  have hgo' : w'.heap[go]? = some (.cells cur 22 (0, 0)) := (blkSL go cur b2).trans b2
  have off : ∀ k, k ≠ go → (w'.setCell ⟨go, ps.length, none⟩ v').heap[k]? = w'.heap[k]? := fun k hk => Below.heap_setCell _ _ _ _ hk
  have hl := h.len
  rw [hP] at hl
  refine ⟨h.hb, by have := h.hh; simp; omega, by simp [hl], ?_, fun i v p h1 h2 h3 => ?_, fun i v p h1 h2 h3 => ?_⟩
  · have := own_put out' (k := ps.length) (by omega) v'
    rw [List.length_append, List.length_singleton, ← hn]; exact this
  · rw [List.length_append, List.length_singleton] at h1
    rw [List.getElem?_set_ne (by omega)] at h2
    rw [List.getElem?_append_left (by omega)] at h3
    refine (h.old i v p (by rw [hP]; omega) h2 (by rw [List.getElem?_append_left (by omega)]; exact h3)).keep fun k h4 h5 hk => ?_
    rw [off k (nego w k hk b2), low k h5 hk.lt]
  · rw [List.length_append, List.length_singleton] at h1
    have hi' : i = ps.length := by omega
    subst hi'
    rw [List.getElem?_set_self (by omega)] at h2
    rw [List.getElem?_append_right (by omega), Nat.sub_self] at h3
    cases h2; cases h3
    refine ⟨?_, by simp⟩
    have e1 : (last ++ [(ax, ay), (bx, by')]).length = last.length + 2 := by simp
    have e2 : (last ++ [(ax, ay), (bx, by')]).flatMap ptCells = last.flatMap ptCells ++ [.int .i64 ax, .int .i64 ay, .int .i64 bx, .int .i64 by'] := by rw [List.flatMap_append]; rfl
    rw [e1, e2]
    exact own_keep ho fun k cs _ hc => off k (nego w' k ⟨cs, hc⟩ hgo')
theorem RS.lowr {w : World} {base hi : Nat} {vo : Value} {vs : List Value} {P : List (List Cl.Pt)} (h : RS w base hi vo vs P) : ∀ r, vo.ownBlock = some r → r < w.heap.size := fun r hr => (h.out.lt r hr).2
theorem RS.lowl {w : World} {base hi : Nat} {vo : Value} {vs : List Value} {P : List (List Cl.Pt)} (h : RS w base hi vo vs P) : ∀ (i : Nat) (v : Value) (p : List Cl.Pt) (r : Nat), i + 1 = P.length → vs[i]? = some v → P[i]? = some p → v.ownBlock = some r → r < w.heap.size := fun i v p r h1 h2 h3 hr => ((h.now i v p h1 h2 h3).1.lt r hr).2
theorem But.of_grown {X : Nat → Prop} {a w' : World} {o : Obj} {row : Option Nat} (hg : (a.drew.alloc o).grownBy w' row) (hr : ∀ r, row = some r → X r) : But X a w' :=
  ⟨hg.os, hg.tape, hg.output, by have := hg.size; simp at this; omega, fun k hk hx => (hg.block k (by simp; omega) (fun e => hx (hr k e.symm))).trans (alloc_old a.drew _ hk)⟩
theorem RS.pz {w : World} {base hi n c : Nat} {A : Option Addr} {vs : List Value} {P : List (List Cl.Pt)} (h : RS w base hi (.slice A n c) vs P) (hn : n = P.length) : Pz w A P := by
  subst hn
  refine ⟨vs, h.len, rd_own1 h.out, fun i v p hv hp => ?_⟩
  have hi : i < P.length := by
    rcases Nat.lt_or_ge i P.length with h1 | h1
    · exact h1
    · rw [List.getElem?_eq_none h1] at hp; cases hp
  have hpa : PartAt w base w.heap.size v p := by
    rcases Nat.lt_or_ge (i + 1) P.length with h1 | h1
    · exact (h.old i v p h1 hv hp).wide h.hh
    · obtain ⟨g1, g2⟩ := h.now i v p (by omega) hv hp
      exact PartAt.of_own g1 g2 h.hb (Nat.le_refl _)
  obtain ⟨g, off, ci, e1, e2, e3, e4, e5, e6⟩ := hpa
  exact ⟨_, ci, e1, e4.rp, e5, e6⟩

/-- the parts that are found -/
structure OS (w : World) (base : Nat) (vo : Value) (vs : List Value) (ps : List (List Cl.Pt)) : Prop where
  out : w.ownsRow base 22 1 vo ps.length vs
  parts : PartsAt w base w.heap.size vs ps
theorem OS.nil_ (w : World) (base : Nat) : OS w base (.slice none 0 0) [] [] := ⟨World.ownsRow_nil _ _ _ _, PartsAt.nil_ _ _ _⟩
theorem OS.below {w w' : World} {base : Nat} {vo : Value} {vs : List Value} {ps : List (List Cl.Pt)} (h : OS w base vo vs ps) (hb : Below w.heap.size w w') : OS w' base vo vs ps :=
  ⟨own_keep h.out fun k cs _ hc => hb.block k (lt_of_block hc), (h.parts.keep fun k _ _ hk => hb.block k hk.lt).wide hb.size⟩
theorem OS.push {w w' : World} {base : Nat} {vo v v' : Value} {vs : List Value} {ps : List (List Cl.Pt)} {p : List Cl.Pt} (h : OS w base vo vs ps) (hp : PartAt w base w.heap.size v p)
    (ho : w'.ownsRow base 22 1 v' (ps.length + 1) (vs ++ [v])) (hg : (w.alloc (.cells #[v] 22)).grownBy w' vo.ownBlock) (hsz : w.heap.size ≤ w'.heap.size) : OS w' base v' (vs ++ [v]) (ps ++ [p]) := by
  have o1 := h.out.alloc (.cells #[v] 22)
  refine ⟨by simpa using ho, ((h.parts.snoc hp).keep fun k _ _ ⟨cs, hc⟩ => ?_).wide hsz⟩
  rw [hc]; exact blk_keep hg o1 ((alloc_old _ _ (lt_of_block hc)).trans hc) sl_pt
theorem OS.post {w w' : World} {base : Nat} {vo : Value} {vs : List Value} {ps : List (List Cl.Pt)} (h : OS w' base vo vs ps) (hb : w.heap.size ≤ base) (hbel : Below w.heap.size w w') : LinePost w ps (.returned vo) w' := by
  refine ⟨vo, vs, rfl, ⟨h.out.1, ?_⟩, ⟨h.parts.len, fun i v p h1 h2 => ?_⟩, hbel⟩
  · rcases h.out.2 with h1 | ⟨g, cap, cur, h1, h2, h3⟩
    · exact .inl h1
    · exact .inr ⟨g, cap, cur, h1, by omega, h3⟩
  · obtain ⟨g, off, c, e, h3, h4⟩ := h.parts.at_ i v p h1 h2
    exact ⟨g, off, c, e, by omega, h4⟩

/-! ### the reference's parts, round by round -/

def refStep (b : Cl.Bx) (first : Bool) (p q : Cl.Pt) (P : List (List Cl.Pt)) : List (List Cl.Pt) :=
  if Cl.pcOk p q b then (if !first && Cl.inB p b then Cl.putLast [Cl.pcA p q b, Cl.pcB p q b] P else P ++ [[Cl.pcA p q b, Cl.pcB p q b]]) else P
def refRest (b : Cl.Bx) (l : List Cl.Pt) (k : Nat) (P : List (List Cl.Pt)) : List (List Cl.Pt) := match l[k - 1]? with
  | none => P
  | some p => Cl.refGo b (decide (k ≤ 1)) p (l.drop k) P
def refAll (b : Cl.Bx) (l : List Cl.Pt) : List (List Cl.Pt) := refRest b l 1 []
theorem refAll_line (b : Cl.Bx) (l : List Cl.Pt) : (refAll b l).flatMap Cl.fin = Cl.lineF l b := by
  rw [Cl.ref_line]
  cases l <;> rfl
theorem refRest_end {b : Cl.Bx} {l : List Cl.Pt} {k : Nat} (h : l.length ≤ k) (P : List (List Cl.Pt)) : refRest b l k P = P := by
  unfold refRest
  rw [List.drop_of_length_le h]
  cases l[k - 1]? <;> rfl
theorem refRest_step {b : Cl.Bx} {l : List Cl.Pt} {k : Nat} (h : k < l.length) (hk : 1 ≤ k) (P : List (List Cl.Pt)) : refRest b l k P = refRest b l (k + 1) (refStep b (decide (k ≤ 1)) l[k - 1] l[k] P) := by
  unfold refRest
  rw [List.getElem?_eq_getElem (show k - 1 < l.length by omega), show k + 1 - 1 = k by omega, List.getElem?_eq_getElem h, List.drop_eq_getElem_cons h]
  simp only [Cl.refGo]
  rw [show decide (k + 1 ≤ 1) = false by simp; omega]
  rfl
/-- a point of the box has a part behind it -/
def RNe (b : Cl.Bx) (l : List Cl.Pt) (k : Nat) (P : List (List Cl.Pt)) : Prop := ∀ p, l[k - 1]? = some p → 1 < k → Cl.inB p b = true → P ≠ []
theorem putLast_ne {x : List Cl.Pt} : ∀ {P : List (List Cl.Pt)}, P ≠ [] → Cl.putLast x P ≠ []
  | [], h => absurd rfl h
  | [_], _ => by simp [Cl.putLast]
  | _ :: _ :: _, _ => by simp [Cl.putLast]
theorem RNe.step {b : Cl.Bx} {l : List Cl.Pt} {k : Nat} {P : List (List Cl.Pt)} (hn : RNe b l k P) (h : k < l.length) (hk : 1 ≤ k) : RNe b l (k + 1) (refStep b (decide (k ≤ 1)) l[k - 1] l[k] P) := by
  intro p hp _ hi
  rw [show k + 1 - 1 = k by omega, List.getElem?_eq_getElem h] at hp
  cases hp
  unfold refStep
  rw [(Cl.piece_q (p := l[k - 1]) hi).1, if_pos rfl]
  by_cases hc : (!decide (k ≤ 1) && Cl.inB l[k - 1] b) = true
  · rw [if_pos hc]
    simp only [Bool.and_eq_true, Bool.not_eq_true', decide_eq_false_iff_not] at hc
    exact putLast_ne (hn _ (List.getElem?_eq_getElem (by omega)) (by omega) hc.2)
  · rw [if_neg hc]; simp
/-- how long they are -/
def PL (P : List (List Cl.Pt)) (k : Nat) : Prop := P.length ≤ k ∧ ∀ p ∈ P, p.length ≤ 2 * k
theorem PL.up {P : List (List Cl.Pt)} {k : Nat} (h : PL P k) : PL P (k + 1) := ⟨by have := h.1; omega, fun p hp => by have := h.2 p hp; omega⟩
theorem PL.push {P : List (List Cl.Pt)} {k : Nat} (h : PL P k) (a b : Cl.Pt) : PL (P ++ [[a, b]]) (k + 1) := by
  refine ⟨by have := h.1; simp; omega, fun p hp => ?_⟩
  rcases List.mem_append.1 hp with h1 | h1
  · have := h.2 p h1; omega
  · simp at h1; subst h1; simp; omega
theorem PL.grow {ps : List (List Cl.Pt)} {last : List Cl.Pt} {k : Nat} (h : PL (ps ++ [last]) k) (a b : Cl.Pt) : PL (ps ++ [last ++ [a, b]]) (k + 1) := by
  refine ⟨by have := h.1; simp at this ⊢; omega, fun p hp => ?_⟩
  rcases List.mem_append.1 hp with h1 | h1
  · have := h.2 p (List.mem_append.2 (.inl h1)); omega
  · simp at h1; subst h1
    have := h.2 last (List.mem_append.2 (.inr (by simp)))
    simp; omega
theorem refStep_no {b : Cl.Bx} {f : Bool} {p q : Cl.Pt} {P : List (List Cl.Pt)} (h : Cl.pcOk p q b = false) : refStep b f p q P = P := by unfold refStep; rw [h]; rfl
theorem refStep_new {b : Cl.Bx} {f : Bool} {p q : Cl.Pt} {P : List (List Cl.Pt)} (h : Cl.pcOk p q b = true) (h2 : (!f && Cl.inB p b) = false) : refStep b f p q P = P ++ [[Cl.pcA p q b, Cl.pcB p q b]] := by unfold refStep; rw [h, h2]; rfl
theorem refStep_grow {b : Cl.Bx} {f : Bool} {p q : Cl.Pt} {ps : List (List Cl.Pt)} {last : List Cl.Pt} (h : Cl.pcOk p q b = true) (h2 : (!f && Cl.inB p b) = true) : refStep b f p q (ps ++ [last]) = ps ++ [last ++ [Cl.pcA p q b, Cl.pcB p q b]] := by unfold refStep; rw [h, h2]; exact Cl.putLast_snoc _ _ _
theorem snoc_of {P : List (List Cl.Pt)} (h : P ≠ []) : ∃ ps last, P = ps ++ [last] := ⟨P.dropLast, P.getLast h, (List.dropLast_concat_getLast h).symm⟩
theorem fin_take {P : List (List Cl.Pt)} {k : Nat} (h : k < P.length) : (P.take (k + 1)).flatMap Cl.fin = (P.take k).flatMap Cl.fin ++ Cl.fin P[k] := by
  rw [List.take_succ_eq_append_getElem h, List.flatMap_append]; simp
theorem finp_len (P : List (List Cl.Pt)) : (P.flatMap Cl.fin).length ≤ P.length := by
  induction P with
  | nil => simp
  | cons x r ih =>
    have : (Cl.fin x).length ≤ 1 := by unfold Cl.fin; split <;> simp
    rw [List.flatMap_cons, List.length_append, List.length_cons]; omega
end Go.Proofs.Ytdiknijbjmhacaa
