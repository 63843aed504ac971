/- WALKS: the law's examples: what is used there. -/
import Derived.Test.YtdiknijbjmhacaaG2
import Derived.Test.YtdiknijbjmhacaaE3
import Derived.Test.YtdiknijbjmhacaaF6
set_option linter.unusedSimpArgs false
set_option linter.unusedVariables false
namespace Go.Proofs.Ytdiknijbjmhacaa
open Go.RowKit

theorem line_any (A : Option Addr) (n c : Nat) (l : List Cl.Pt) (x0 y0 x1 y1 : Int) (w : World) (hn : n = l.length) (hl : n ≤ 1000) (h : Rp w A l) (hw : Wf l) (hb : Wf [(x0, y0), (x1, y1)]) :
    Calls Try.prog 12 #[.slice A n c, .agg #[.int .i64 x0, .int .i64 y0, .int .i64 x1, .int .i64 y1]] w (LinePost w (clipL l ⟨x0, y0, x1, y1⟩)) := by
  rcases hp : Cl.properB l ⟨x0, y0, x1, y1⟩ with _ | _
  · exact lineNo_any A n c l x0 y0 x1 y1 w hn hl h hw hb hp
  · exact lineYes_any A n c l x0 y0 x1 y1 w hn hl h hw hb hp
theorem ring_any (A : Option Addr) (n c : Nat) (l : List Cl.Pt) (x0 y0 x1 y1 : Int) (w : World) (hn : n = l.length) (hl : n ≤ 4000) (h : Rp w A l) (hw : Wf l) (hb : Wf [(x0, y0), (x1, y1)]) :
    Calls Try.prog 15 #[.slice A n c, .agg #[.int .i64 x0, .int .i64 y0, .int .i64 x1, .int .i64 y1]] w (RingPost w (clipR l ⟨x0, y0, x1, y1⟩)) := by
  rcases hp : Cl.properB l ⟨x0, y0, x1, y1⟩ with _ | _
  · exact ringNo_any A n c l x0 y0 x1 y1 w hn hl h hw hb hp
  · exact ringYes_any A n c l x0 y0 x1 y1 w hn hl h hw hb hp

theorem rp_alloc {w : World} {A : Option Addr} {l : List Cl.Pt} (h : Rp w A l) (o : Obj) : Rp (w.alloc o) A l := Rd.alloc h o
theorem rp_drew {w : World} {A : Option Addr} {l : List Cl.Pt} (h : Rp w A l) : Rp w.drew A l := h
theorem rp_below {w w' : World} {A : Option Addr} {l : List Cl.Pt} (h : Rp w A l) (hb : Below w.heap.size w w') : Rp w' A l := h.below hb
theorem pz_alloc {w : World} {A : Option Addr} {l : List (List Cl.Pt)} (h : Pz w A l) (o : Obj) : Pz (w.alloc o) A l := h.below ((Below.refl _ _).alloc (Nat.le_refl _) o)
theorem pz_below {w w' : World} {A : Option Addr} {l : List (List Cl.Pt)} (h : Pz w A l) (hb : Below w.heap.size w w') : Pz w' A l := h.below hb
theorem rp_row {w : World} {g : Nat} {e : TypeId} {l : List Cl.Pt} {cs : Array Value} (h : w.heap[g]? = some (.cells cs e (0, 0))) (hc : cs.toList = l.flatMap ptCells) : Rp w (some ⟨g, 0, none⟩) l := Rd.of_row h (by rw [hc]; exact List.prefix_refl _)
theorem pz_one {w : World} {g n1 c1 : Nat} {e : TypeId} {A1 : Option Addr} {p : List Cl.Pt} (h : w.heap[g]? = some (.cells #[.slice A1 n1 c1] e (0, 0))) (h1 : Rp w A1 p) (hn : n1 = p.length) (hc : n1 ≤ c1 ∧ c1 ≤ maxLen) : Pz w (some ⟨g, 0, none⟩) [p] := by
  subst hn
  refine ⟨[.slice A1 p.length c1], rfl, Rd.of_row h (List.prefix_refl _), fun i v q hv hq => ?_⟩
  rcases i with _ | i
  · simp at hv hq; subst hv hq; exact ⟨_, _, rfl, h1, hc⟩
  · simp at hv
theorem pz_two {w : World} {g n1 c1 n2 c2 : Nat} {e : TypeId} {A1 A2 : Option Addr} {p q : List Cl.Pt} (h : w.heap[g]? = some (.cells #[.slice A1 n1 c1, .slice A2 n2 c2] e (0, 0))) (h1 : Rp w A1 p) (hn : n1 = p.length) (hc : n1 ≤ c1 ∧ c1 ≤ maxLen)
    (h2 : Rp w A2 q) (hn2 : n2 = q.length) (hc2 : n2 ≤ c2 ∧ c2 ≤ maxLen) : Pz w (some ⟨g, 0, none⟩) [p, q] := by
  subst hn hn2
  refine ⟨[.slice A1 p.length c1, .slice A2 q.length c2], rfl, Rd.of_row h (List.prefix_refl _), fun i v x hv hx => ?_⟩
  match i, hv, hx with
  | 0, hv, hx => simp at hv hx; subst hv hx; exact ⟨_, _, rfl, h1, hc⟩
  | 1, hv, hx => simp at hv hx; subst hv hx; exact ⟨_, _, rfl, h2, hc2⟩

/-- points come back, in a slice -/
def PtsPost (w : World) (ps : List Cl.Pt) (e : Ending) (w' : World) : Prop := ∃ A c, e = .returned (.slice A ps.length c) ∧ Rp w' A ps ∧ (ps.length ≤ c ∧ c ≤ maxLen) ∧ Below w.heap.size w w'
theorem points_p (A : Option Addr) (m c : Nat) (ps : List Cl.Pt) (w : World) (hm : m = ps.length * 2) (hl : ps.length ≤ 1000) (h : Rp w A ps) : Calls Try.prog 25 #[.slice A m c] w (PtsPost w ps) :=
  (points_any A m c ps w hm hl h).mono fun e w' ⟨v, he, ho, hb⟩ => by
    obtain ⟨A', c', rfl, h1, h2⟩ := own_form ho
    exact ⟨A', c', he, rp_own ho, ⟨h1, h2⟩, hb⟩
def PzPost (w : World) (ps : List (List Cl.Pt)) (e : Ending) (w' : World) : Prop := ∃ A c, e = .returned (.slice A ps.length c) ∧ Pz w' A ps ∧ (ps.length ≤ c ∧ c ≤ maxLen) ∧ Below w.heap.size w w'
theorem line_p (A : Option Addr) (n c : Nat) (l : List Cl.Pt) (x0 y0 x1 y1 : Int) (w : World) (ps : List (List Cl.Pt)) (hn : n = l.length) (hl : n ≤ 1000) (h : Rp w A l) (hw : Wf l) (hb : Wf [(x0, y0), (x1, y1)]) (he : clipL l ⟨x0, y0, x1, y1⟩ = ps) :
    Calls Try.prog 12 #[.slice A n c, .agg #[.int .i64 x0, .int .i64 y0, .int .i64 x1, .int .i64 y1]] w (PzPost w ps) :=
  (line_any A n c l x0 y0 x1 y1 w hn hl h hw hb).mono fun e w' hh => by
    obtain ⟨A', c', h1, h2, h3, h4, h5⟩ := Pz.of_line hh
    subst he
    exact ⟨A', c', h1, h2, ⟨h3, h4⟩, h5⟩
theorem ring_p (A : Option Addr) (n c : Nat) (l : List Cl.Pt) (x0 y0 x1 y1 : Int) (w : World) (r : List Cl.Pt) (hn : n = l.length) (hl : n ≤ 4000) (h : Rp w A l) (hw : Wf l) (hb : Wf [(x0, y0), (x1, y1)]) (he : clipR l ⟨x0, y0, x1, y1⟩ = r) :
    Calls Try.prog 15 #[.slice A n c, .agg #[.int .i64 x0, .int .i64 y0, .int .i64 x1, .int .i64 y1]] w (PtsPost w r) :=
  (ring_any A n c l x0 y0 x1 y1 w hn hl h hw hb).mono fun e w' hh => by
    obtain ⟨A', c', h1, h2, h3, h4, h5⟩ := hh
    subst he
    exact ⟨A', c', h1, h2, ⟨h3, h4⟩, h5⟩
theorem wf_of {l : List Cl.Pt} (h : ∀ p ∈ l, Cl.nearB p.1 p.2 = true) : Wf l := fun p hp => by have := Cl.near_iff.1 (h p hp); omega
theorem ex1 : clipL [(-2, 2), (6, 2)] ⟨0, 0, 4, 4⟩ = [[(0, 2), (4, 2)]] := by decide +kernel
theorem ex2 : clipL [(1, 1), (6, 1), (6, 3), (1, 3)] ⟨0, 0, 4, 4⟩ = [[(1, 1), (4, 1)], [(4, 3), (1, 3)]] := by decide +kernel
theorem ex3 : clipL [(-1, 0), (2, 1)] ⟨0, 0, 4, 4⟩ = [[(0, 0), (2, 1)]] := by decide +kernel
theorem ex4 : clipR [(-2, -2), (2, -2), (2, 2), (-2, 2)] ⟨0, 0, 4, 4⟩ = [(0, 0), (2, 0), (2, 2), (0, 2)] := by decide +kernel
end Go.Proofs.Ytdiknijbjmhacaa
