/- WALKS: clip.Line: what a round does. -/
import Derived.Test.YtdiknijbjmhacaaE1
import Derived.Test.YtdiknijbjmhacaaC6
import Derived.Deep.RegionHeld3
import Derived.Deep.DrawnRows
set_option linter.unusedSimpArgs false
set_option linter.unusedVariables false
namespace Go.Proofs.Ytdiknijbjmhacaa
open Go.RowKit

theorem end_any (gn go base hi top : Nat) (vn vo : Value) (now : List Cl.Pt) (vs : List Value) (ps : List (List Cl.Pt)) (w : World) (h : LineSt w gn go base hi vn vo now vs ps) (ht : ∀ r, vn.ownBlock = some r → r < top) (ht2 : ∀ r, vo.ownBlock = some r → r < top) (b2 : now.length ≤ 1000000) (b3 : ps.length ≤ 1000000) :
    Calls Try.prog 27 #[.pointer (some ⟨gn, 0, none⟩), .pointer (some ⟨go, 0, none⟩)] w (EndPost w gn go base top ps now) := by
  by_cases b1 : now.length < 2
  · exact end_short gn go base hi top vn vo now vs ps w h b1
  · exact end_long gn go base hi top vn vo now vs ps w h ht ht2 (by omega) b2 b3

/-- append of m elements that have just been laid in a block of their own -/
theorem wpList_appB {P : Program} {ops : Array Oper} {rest : List Oper} {o : Oper} {a : Act} {Q : Exit → Act → World → Prop} (hgd : o.guard = none) (s x : Operand) (t : TypeId)
    (ho : o.op = .call { callee := .builtin .append, args := #[s, x], argTypes := #[t, t] }) {e : TypeId} {z : Value} {size bytes : Nat}
    (ht : P.underlying t = some (.slice e)) (hinfo : (P.info? e).map (fun i => (i.zero, i.size, i.bytes)) = some (some z, size, bytes)) (hzs : z.cells.size = size) (hsz : 0 < size)
    (base : Nat) (v : Value) (n m : Nat) (xs : List Value) (w0 : World) (cs : Array Value) (hcs : cs.size = m * size) (h1 : ∀ u ∈ cs.toList, u.oneCell' = true)
    (hs : a.eval s = v) {g : Nat} (hx : a.eval x = .slice (some ⟨g, 0, none⟩) m m) (hg : w0.heap.size = g) (hown : w0.ownsRow base e size v n xs) (hb : base ≤ w0.heap.size)
    (hbytes : (n + m) * bytes ≤ 140737488355328) (hmax : n + m ≤ 9223372036854775807)
    (h : ∀ v' w', w'.ownsRow base e size v' (n + m) (xs ++ cs.toList) → Below base w0 w' → (w0.alloc (.cells cs e)).grownBy w' v.ownBlock → wpList P ops Q rest (a.put o.dst v') w') :
    wpList P ops Q (o :: rest) a (w0.alloc (.cells cs e)) := by
  subst hg
  obtain ⟨i, hi, hz, hsi, hby⟩ := info_parts hinfo
  refine wpList_append_own _ hgd s x t ho base e i z size bytes ht hi hz hsi hby hzs hsz v n xs hs (hown.alloc _) ⟨w0.heap.size, 0, none⟩ m m cs.toList hx (by simpa using hcs)
    (World.news_of_block (cs := cs) (t := e) (fr := (0, 0)) (heap_alloc_new w0 _)) h1 (by simpa [maxLen] using hmax) hbytes (by simp; omega) ?_
  intro v' w' hown' hg _
  exact h v' w' hown' (((Below.refl base w0).alloc hb _).trans (grown_below hg (fun k hk => (hown.lt k hk).1) (by simp; omega))) hg

/-- what is left of a line at round k -/
def goK (b : Cl.Bx) (l : List Cl.Pt) (k : Nat) (now : List Cl.Pt) : List (List Cl.Pt) := match l[k - 1]? with
  | none => Cl.fin now
  | some p => Cl.lineGo b p (l.drop k) now
theorem goK_start (b : Cl.Bx) (l : List Cl.Pt) : Cl.lineF l b = goK b l 1 [] := by
  cases l <;> rfl
theorem goK_end {b : Cl.Bx} {l : List Cl.Pt} {k : Nat} (h : l.length ≤ k) (now : List Cl.Pt) : goK b l k now = Cl.fin now := by
  unfold goK
  rw [List.drop_of_length_le h]
  cases l[k - 1]? <;> rfl
theorem goK_in {b : Cl.Bx} {l : List Cl.Pt} {k : Nat} (h1 : 1 ≤ k) (h : k < l.length) (now : List Cl.Pt) (hi : Cl.inB l[k - 1] b = true) : goK b l k now = goK b l (k + 1) (now ++ Cl.adP l[k - 1] l[k] b) := by
  unfold goK
  rw [List.getElem?_eq_getElem (by omega : k - 1 < l.length), show k + 1 - 1 = k by omega, List.getElem?_eq_getElem h, List.drop_eq_getElem_cons h]
  simp only [Cl.lineGo, hi, if_true]
theorem goK_out {b : Cl.Bx} {l : List Cl.Pt} {k : Nat} (h1 : 1 ≤ k) (h : k < l.length) (now : List Cl.Pt) (hi : Cl.inB l[k - 1] b = false) : goK b l k now = Cl.fin now ++ goK b l (k + 1) (Cl.adP l[k - 1] l[k] b) := by
  unfold goK
  rw [List.getElem?_eq_getElem (by omega : k - 1 < l.length), show k + 1 - 1 = k by omega, List.getElem?_eq_getElem h, List.drop_eq_getElem_cons h]
  simp [Cl.lineGo, hi]
theorem fin_len (l : List Cl.Pt) : (Cl.fin l).length ≤ 1 := by unfold Cl.fin; split <;> simp

def clipL (l : List Cl.Pt) (b : Cl.Bx) : List (List Cl.Pt) := if Cl.properB l b then Cl.lineF l b else []
def LinePost (w : World) (ps : List (List Cl.Pt)) (e : Ending) (w' : World) : Prop :=
  ∃ vo vs, e = .returned vo ∧ w'.ownsRow w.heap.size 22 1 vo ps.length vs ∧ PartsAt w' w.heap.size w'.heap.size vs ps ∧ Below w.heap.size w w'
/-- the state at the head of a round -/
structure RoundSt (w wr : World) (base gn go g : Nat) (b : Cl.Bx) (l : List Cl.Pt) (k : Nat) (hi : Nat) (vn vo : Value) (now : List Cl.Pt) (vs : List Value) (ps : List (List Cl.Pt)) : Prop where
  st : LineSt wr gn go base hi vn vo now vs ps
  eq : Cl.lineF l b = ps ++ goK b l k now
  box : BoxAt wr g b
  bel : Below w.heap.size w wr
  n1 : now.length ≤ 2 * k
  n2 : ps.length ≤ k
def RoundS (w wr : World) (base gn go g : Nat) (b : Cl.Bx) (l : List Cl.Pt) (k : Nat) : Prop := ∃ hi vn vo now vs ps, RoundSt w wr base gn go g b l k hi vn vo now vs ps
theorem PartsAt.lower {w : World} {lo lo' hi : Nat} {vs : List Value} {ps : List (List Cl.Pt)} (h : PartsAt w lo hi vs ps) (hh : lo' ≤ lo) : PartsAt w lo' hi vs ps :=
  ⟨h.len, fun i v p h1 h2 => by
    obtain ⟨g, off, c, e, k1, k2, k3⟩ := h.at_ i v p h1 h2
    exact ⟨g, off, c, e, by omega, k2, k3⟩⟩
theorem bcell {W w1 : World} (hb : Below W.heap.size W w1) : (∀ b o, b < W.heap.size → w1.cell? ⟨b, o, none⟩ = W.cell? ⟨b, o, none⟩) ∧ (∀ b o, b < W.heap.size → w1.frozen? ⟨b, o, none⟩ = W.frozen? ⟨b, o, none⟩) :=
  ⟨fun b o h => hb.cell (p := ⟨b, o, none⟩) h, fun b o h => hb.frozen (p := ⟨b, o, none⟩) h⟩
theorem BoxAt.lt {w : World} {g : Nat} {b : Cl.Bx} (h : BoxAt w g b) : g < w.heap.size := lt_of_block h
/-- whatever was there in W0 is as it was -/
def OldOf (W0 w : World) : Prop := Below W0.heap.size W0 w
theorem OldOf.refl (W0 : World) : OldOf W0 W0 := Below.refl _ _
theorem OldOf.below {W0 w w' : World} (h : OldOf W0 w) (hb : Below w.heap.size w w') : OldOf W0 w' := Below.trans h (Below.mono hb h.size)
theorem OldOf.alloc {W0 w : World} (h : OldOf W0 w) (o : Obj) : OldOf W0 (w.alloc o) := h.below ((Below.refl _ _).alloc (Nat.le_refl _) o)
theorem OldOf.set {W0 w : World} (h : OldOf W0 w) {p : Addr} (hp : W0.heap.size ≤ p.block) (u : Value) : OldOf W0 (w.setCell p u) := Below.setCell h hp u
theorem OldOf.c {W0 w : World} (h : OldOf W0 w) {b o : Nat} {v : Value} (hc : W0.cell? ⟨b, o, none⟩ = some v) : w.cell? ⟨b, o, none⟩ = some v := (Below.cell (p := ⟨b, o, none⟩) h (World.block_lt_of_cell? _ _ hc)).trans hc
theorem LineSt.tops {w : World} {gn go base hi : Nat} {vn vo : Value} {now : List Cl.Pt} {vs : List Value} {ps : List (List Cl.Pt)} (h : LineSt w gn go base hi vn vo now vs ps) : (∀ r, vn.ownBlock = some r → r < w.heap.size) ∧ (∀ r, vo.ownBlock = some r → r < w.heap.size) :=
  ⟨fun r hr => (h.now.lt r hr).2, fun r hr => (h.o.out.lt r hr).2⟩
/-- behind the end of a part, if there is one: the piece (p, q) is to be added to what has been gathered -/
structure MidSt (w wr : World) (base gn go g : Nat) (b : Cl.Bx) (l : List Cl.Pt) (k : Nat) (p q : Cl.Pt) (hi : Nat) (vn vo : Value) (now : List Cl.Pt) (vs : List Value) (ps : List (List Cl.Pt)) : Prop where
  st : LineSt wr gn go base hi vn vo now vs ps
  eq : Cl.lineF l b = ps ++ goK b l (k + 1) (now ++ Cl.adP p q b)
  box : BoxAt wr g b
  bel : Below w.heap.size w wr
  n1 : now.length ≤ 2 * k
  n2 : ps.length ≤ k + 1
def MidS (w wr : World) (base gn go g : Nat) (b : Cl.Bx) (l : List Cl.Pt) (k : Nat) (p q : Cl.Pt) : Prop := ∃ hi vn vo now vs ps, MidSt w wr base gn go g b l k p q hi vn vo now vs ps
theorem mid_in {w wr w3 : World} {base gn go g : Nat} {b : Cl.Bx} {l : List Cl.Pt} {k : Nat} {p q : Cl.Pt} {hi : Nat} {vn vo : Value} {now : List Cl.Pt} {vs : List Value} {ps : List (List Cl.Pt)}
    (R : RoundSt w wr base gn go g b l k hi vn vo now vs ps) (h1 : 1 ≤ k) (hk : k < l.length) (hp : p = l[k - 1]) (hq : q = l[k]) (hi : Cl.inB p b = true) (hb : Below wr.heap.size wr w3) : MidS w w3 base gn go g b l k p q := by
  subst hp hq
  exact ⟨_, vn, vo, now, vs, ps, R.st.keep hb, by rw [R.eq, goK_in h1 hk now hi], R.box.below hb R.box.lt, R.bel.trans (hb.mono R.bel.size), R.n1, by have := R.n2; omega⟩
theorem mid_out {w wr w3 w4 : World} {base gn go g : Nat} {b : Cl.Bx} {l : List Cl.Pt} {k : Nat} {p q : Cl.Pt} {hi : Nat} {vn vo vo' : Value} {now : List Cl.Pt} {vs vs' : List Value} {ps : List (List Cl.Pt)}
    (R : RoundSt w wr base gn go g b l k hi vn vo now vs ps) (h1 : 1 ≤ k) (hk : k < l.length) (hp : p = l[k - 1]) (hq : q = l[k]) (hin : Cl.inB p b = false) (hb : Below wr.heap.size wr w3)
    (ep : LineSt w4 gn go base w4.heap.size (.slice none 0 0) vo' [] vs' (ps ++ Cl.fin now)) {top : Nat} (bt : But (X4 gn go base top) w3 w4) (hg : g < base) (hgn : g ≠ gn) (hgo : g ≠ go) (hw : w.heap.size ≤ gn ∧ w.heap.size ≤ go ∧ w.heap.size ≤ base) : MidS w w4 base gn go g b l k p q := by
  subst hp hq
  have hbx := R.box.below hb R.box.lt
  refine ⟨_, _, vo', [], vs', ps ++ Cl.fin now, ep, by rw [R.eq, goK_out h1 hk now hin, List.nil_append, List.append_assoc], (bt.block g hbx.lt (by unfold X4; omega)).trans hbx, ?_, by simp, ?_⟩
  · exact (R.bel.trans (hb.mono R.bel.size)).trans (bt.below (Nat.le_trans R.bel.size hb.size) (fun k hk => by unfold X4 at hk; omega))
  · rw [List.length_append]; have := fin_len now; have := R.n2; omega
theorem LineO.keep2 {w w1 : World} {go base hi : Nat} {vo : Value} {vs : List Value} {ps : List (List Cl.Pt)} (h : LineO w go base hi vo vs ps) (hb : Below hi w w1)
    (hk : ∀ k, k < w.heap.size → ¬ PtBlk w k → w1.heap[k]? = w.heap[k]?) : LineO w1 go base hi vo vs ps := by
  have hl := h.lo; have hh := h.hb
  refine h.keep (fun k hk' hx => ?_) (Nat.le_refl _) (Nat.le_trans h.hh hb.size)
  rcases hx with rfl | ⟨_, hx | hx⟩
  · exact hb.block _ (by omega)
  · exact hb.block _ hx
  · exact hk k hk' hx
theorem OldOf.undrew {W0 w : World} (h : OldOf W0.drew w) : Below W0.heap.size W0 w := ⟨h.os, h.tape, h.output, h.size, h.block⟩
theorem drew_heap (w : World) (k : Nat) : w.drew.heap[k]? = w.heap[k]? := rfl
theorem But.c {X : Nat → Prop} {W0 w : World} (h : But X W0 w) {b o : Nat} {v : Value} (hx : ¬ X b) (hc : W0.cell? ⟨b, o, none⟩ = some v) : w.cell? ⟨b, o, none⟩ = some v :=
  (cell_same (p := ⟨b, o, none⟩) (h.block b (World.block_lt_of_cell? _ _ hc) hx)).trans hc
end Go.Proofs.Ytdiknijbjmhacaa
