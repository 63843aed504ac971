/- A REGION THAT DRAWS ITS ORDER, IN A ROUND OF A RANGE OVER A FUNCTION: it is walked as outside of one. No program is spoken of here. -/
import Derived.RangeFuncNested
import Derived.RangeFuncBound
import Derived.RangeFuncCalls
import Derived.RangeFuncLeaves
import Derived.Deep.RegionHeld3
import Derived.OrdersIn
import Derived.RangeFuncBox
import Derived.Deep.DrawnRows
import Derived.Deep.AppendLies
import Derived.Test.YtlejeelmlclnkaaGreatDoorQB
import Derived.TacticsIn
import Derived.TacticsInMore
import Derived.OwnWalkIn
import Derived.LoopNIn
import Derived.LoopIn
set_option linter.unusedSimpArgs false
set_option linter.unusedVariables false
namespace Go.Proofs.YtlejeelmlclnkaaGreatDoor
open Go.RowKit

theorem rowsIn_of {n : Nat} {P : Program} {row : String} {args : Array Value} {w : World} {R : Value → World → Prop} (h : Rows P row args w R) : RowsIn Fence.wide n P row args w R :=
  fun c cs _ => let ⟨v, w', r, s⟩ := h c cs; ⟨v, w', r, stepsIn_wide.2 s⟩
theorem oper_in_round {l n : Nat} {P : Program} {o : Oper} {a : Act} {w : World} {K : Act → World → Prop} {Q : Exit → Act → World → Prop} (hd : ∀ c : Call, o.op ≠ .defer c) (h : o.wp P a w K Q) : o.wpIn (Fence.wide.inRound l) n P a w K Q := by
  refine ⟨fun _ _ => trivial, ?_⟩
  have e : o.semAt (Fence.wide.inRound l).round a.eval = execOp a.eval o := Oper.semAt_some l a.eval o hd
  rw [e]
  unfold Oper.wp at h
  generalize (execOp a.eval o).run P w = r at *
  cases r with
  | ok x w' =>
    cases x with
    | value v => exact h
    | skip => exact h
    | defer d => exact h
    | enter f args => exact ⟨(fun hh => (by cases hh)), CallsIn.inRound l (callsIn_wide.2 (Calls.mono h fun e w'' he => by cases e <;> exact he))⟩
    | row row args => exact ⟨(fun hh => (by cases hh)), rowsIn_of (Rows.mono h fun u w'' he => he)⟩
    | _ => exact (h : False).elim
  | halt x w' =>
    cases x with
    | panic v => exact h
    | _ => exact (h : False).elim
def NoDefer (o : Oper) : Bool := match o.op with | .defer _ => false | _ => true
theorem noDefer_spec {o : Oper} (h : NoDefer o = true) : ∀ c : Call, o.op ≠ .defer c := by
  intro c e; unfold NoDefer at h; rw [e] at h; cases h
theorem any_in_round {l n : Nat} {P : Program} {md : Region.Mode} {ops : Array Oper} {Q : Exit → Act → World → Prop} (hL : ¬ LetsOut Q) (hd : ops.all NoDefer = true) : ∀ (fuel : Nat) (listed : Array Bool) (a : Act) (w : World),
    wpAny P md ops Q fuel listed a w → wpAnyIn (Fence.wide.inRound l) n P md ops Q fuel listed a w := by
  intro fuel
  induction fuel with
  | zero => exact fun _ _ _ h => h
  | succ fuel ih =>
    intro listed a w h
    refine ⟨h.1, fun i hi => ?_⟩
    have h2 := h.2 i hi
    unfold wpOp at h2
    unfold wpOpIn
    cases ho : ops[i]? with
    | none => rw [ho] at h2; exact ih _ _ _ h2
    | some o =>
      rw [ho] at h2
      simp only at h2 ⊢
      have hno : NoDefer o = true := by
        rw [Array.all_eq_true] at hd
        obtain ⟨hl, rfl⟩ := Array.getElem?_eq_some_iff.1 ho
        exact hd i hl
      split
      · rename_i hw
        rw [if_pos hw] at h2
        rcases h2 with h3 | h3
        · exact Oper.wpIn_mono (fun a w => ih _ a w) (oper_in_round (noDefer_spec hno) h3)
        · exact absurd h3.2 hL
      · rename_i hw
        rw [if_neg hw] at h2
        exact ⟨fun _ _ => trivial, ih _ _ _ h2⟩
/-- the beginning of a region that draws, in a round: S holds of the world behind the draw -/
theorem round_held {l n : Nat} {P : Program} {id : Nat} {ops : Array Oper} {Q : Exit → Act → World → Prop} {a : Act} {w : World} (S : World → Prop) (hm : P.follows .mixedOrders = true) (hL : ¬ LetsOut Q) (hd : ops.all NoDefer = true) (hS : S w.drew)
    (h : S w.drew → wpAnyH P .any ops Q S ops.size (Array.replicate ops.size false) a w.drew) : (Code.region id ops true).wpIn (Fence.wide.inRound l) n P Q a w :=
  wpIn_region_any hm (any_in_round hL hd _ _ _ _ (wpAny_of_held _ _ _ _ (h hS)))
theorem step_appB {P : Program} {ops : Array Oper} {o : Oper} {a : Act} {K : Act → World → Prop} {Q : Exit → Act → World → Prop} {E : Prop} (hgd : o.guard = none) (s x : Operand) (t : TypeId)
    (ho : o.op = .call { callee := .builtin .append, args := #[s, x], argTypes := #[t, t] }) {e : TypeId} {z : Value} {size bytes : Nat}
    (ht : P.underlying t = some (.slice e)) (hinfo : (P.info? e).map (fun i => (i.zero, i.size, i.bytes)) = some (some z, size, bytes)) (hzs : z.cells.size = size) (hsz : 0 < size)
    (base : Nat) (v : Value) (n m : Nat) (xs : List Value) (w0 : World) (cs : Array Value) (hcs : cs.size = m * size) (h1 : ∀ u ∈ cs.toList, u.oneCell' = true)
    (hs : a.eval s = v) {g : Nat} (hx : a.eval x = .slice (some ⟨g, 0, none⟩) m m) (hg : w0.heap.size = g) (hown : w0.ownsRow base e size v n xs) (hb : base ≤ w0.heap.size)
    (hbytes : (n + m) * bytes ≤ 140737488355328) (hmax : n + m ≤ 9223372036854775807) (hm : 0 < m)
    (h : ∀ A c w', w'.ownsRow base e size (.slice A (n + m) c) (n + m) (xs ++ cs.toList) → Below base w0 w' → (w0.alloc (.cells cs e)).grownBy w' v.ownBlock → K (a.put o.dst (.slice A (n + m) c)) w') :
    if Region.wanted o (yielded ops a.tmps) = true then Oper.wp P o a (w0.alloc (.cells cs e)) K Q else E := by
  subst hg
  obtain ⟨i, hi, hz, hsi, hby⟩ := info_parts hinfo
  refine step_append_lies (w0.alloc (.cells cs e)) hgd s x t ho base e i z size bytes ht hi hz hsi hby hzs hsz v n xs hs (hown.alloc _) ⟨w0.heap.size, 0, none⟩ m m cs.toList hx (by simpa using hcs)
    (World.news_of_block (cs := cs) (t := e) (fr := (0, 0)) (heap_alloc_new w0 _)) h1 hm (by simpa [maxLen] using hmax) hbytes (by simp; omega) _ rfl ?_
  intro g cap w' hown' hg _ _
  exact h _ _ w' hown' (((Below.refl base w0).alloc hb _).trans (grown_below hg (fun k hk => (hown.lt k hk).1) (by simp; omega))) hg
theorem ko_below {W W' : World} (h : Below W.heap.size W W') : KeepsOthers W W' := ⟨h.size, fun j o hj _ => (h.block j (Array.getElem?_eq_some_iff.1 hj).1).trans hj⟩
theorem ko_drewN (W : World) (n : Nat) : KeepsOthers W (W.drewN n) := ⟨Nat.le_refl _, fun _ _ h _ => h⟩
/-- an append to an own row within a round: the box of another type, all that is no cells, what lay below the base -/
theorem app_done {W w2 w3 : World} {n₀ Bo k : Nat} {t e : TypeId} {cs : Array Value} {v : Value} {xs : List Value} {tmp : Obj} (hB : W.heap[Bo]? = some (.cells cs t (0, 0))) (hte : e ≠ t) (hown : W.ownsRow n₀ e 1 v k xs) (hn : n₀ ≤ W.heap.size) (hb2 : Below W.heap.size W w2) (hg : (w2.alloc tmp).grownBy w3 v.ownBlock) :
    w3.heap[Bo]? = some (.cells cs t (0, 0)) ∧ KeepsOthers W w3 ∧ Below n₀ W w3 := by
  have hown2 := (own_below hown hb2 (Nat.le_refl _)).alloc tmp
  have hB2 : (w2.alloc tmp).heap[Bo]? = some (.cells cs t (0, 0)) := (alloc_old _ _ (Nat.lt_of_lt_of_le (lt_of_block hB) hb2.size)).trans ((hb2.block Bo (lt_of_block hB)).trans hB)
  refine ⟨blk_keep hg hown2 hB2 hte, ((ko_below hb2).trans (KeepsOthers.alloc w2 tmp)).trans (KeepsOthers.of_grownBy hg fun j o ej hj => ?_), ?_⟩
  · rcases hown2.2 with ⟨rfl, _⟩ | ⟨g, cap, cur, rfl, _, hgb, _⟩
    · simp [Value.ownBlock] at ej
    · obtain rfl : g = j := by simpa [Value.ownBlock] using ej
      rw [hgb] at hj; cases hj; rfl
  · have h1 : Below n₀ W (w2.alloc tmp) := (hb2.mono hn).alloc (Nat.le_trans hn hb2.size) tmp
    exact h1.grown hg (by simp; exact Nat.le_trans hn (Nat.le_trans hb2.size (Nat.le_succ _))) (fun j ej => (hown2.lt j ej).1)
/-- all below n₀ but one block -/
def Kx (n₀ Bo : Nat) (A B : World) : Prop := A.heap.size ≤ B.heap.size ∧ ∀ k, k < n₀ → k ≠ Bo → B.heap[k]? = A.heap[k]?
theorem Kx.trans {n₀ Bo : Nat} {A B C : World} (h : Kx n₀ Bo A B) (k : Kx n₀ Bo B C) : Kx n₀ Bo A C := ⟨Nat.le_trans h.1 k.1, fun j hj hne => (k.2 j hj hne).trans (h.2 j hj hne)⟩
theorem Kx.of_below {n₀ Bo : Nat} {A B : World} (h : Below n₀ A B) : Kx n₀ Bo A B := ⟨h.size, fun j hj _ => h.block j hj⟩
theorem Kx.set {n₀ Bo : Nat} {A B : World} (h : Kx n₀ Bo A B) (i : Nat) (v : Value) : Kx n₀ Bo A (B.setCell ⟨Bo, i, none⟩ v) :=
  ⟨by have := (KeepsWalks.setCell B ⟨Bo, i, none⟩ v).size; exact Nat.le_trans h.1 this, fun j hj hne => (Below.heap_setCell _ _ _ j (fun e => hne e)).trans (h.2 j hj hne)⟩
theorem Kx.putObj {n₀ Bo : Nat} {w : World} (hn : n₀ ≤ w.heap.size) (W : World) (l : Nat) (o o' : Obj) (hl : w.heap.size ≤ l) (_ : W.heap[l]? = some o) (_ : o.isCells = false) (_ : o.isWalk = false) : Kx n₀ Bo W (W.putObj l o') := by
  have hg := grownBy_putObj' W l o'
  refine ⟨hg.size, fun j hj _ => ?_⟩
  rcases Nat.lt_or_ge j W.heap.size with h | h
  · exact hg.block j h (fun e => by cases e; omega)
  · have h2 : (W.putObj l o').heap.size = W.heap.size := World.putObj_size
    rw [Array.getElem?_eq_none h, Array.getElem?_eq_none (by omega)]
theorem Kx.cell {n₀ Bo : Nat} {A B : World} (h : Kx n₀ Bo A B) {p : Addr} (hp : p.block < n₀) (hne : p.block ≠ Bo) : B.cell? p = A.cell? p := World.cell?_of_block (h.2 p.block hp hne)
theorem Kx.drewN {n₀ Bo : Nat} {A B : World} (h : Kx n₀ Bo A B) (n : Nat) : Kx n₀ Bo A (B.drewN n) := h
theorem Kx.refl (n₀ Bo : Nat) (A : World) : Kx n₀ Bo A A := ⟨Nat.le_refl _, fun _ _ _ => rfl⟩
theorem own_keptR {X Y : World} {row : Option Nat} {n₀ size k : Nat} {e : TypeId} {v : Value} {xs : List Value} (hr : X.ownsRow n₀ e size v k xs) (hg : X.grownBy Y row) (hrow : ∀ r, row = some r → ∃ o : Obj, X.heap[r]? = some o ∧ o.isCells = false) : Y.ownsRow n₀ e size v k xs := by
  refine hr.kept hg ?_
  rcases hr.2 with ⟨rfl, _⟩ | ⟨g, cap, cur, rfl, _, hgb, _⟩
  · exact .inl rfl
  · refine .inr fun e' => ?_
    obtain ⟨o, ho, hc⟩ := hrow g (by simpa [Value.ownBlock] using e'.symm)
    rw [hgb] at ho; cases ho; cases hc
theorem blk_keptR {X Y : World} {row : Option Nat} {B : Nat} {t : TypeId} {cs : Array Value} {fr : Nat × Nat} (hv : X.heap[B]? = some (.cells cs t fr)) (hg : X.grownBy Y row) (hrow : ∀ r, row = some r → ∃ o : Obj, X.heap[r]? = some o ∧ o.isCells = false) : Y.heap[B]? = some (.cells cs t fr) := by
  refine (hg.block B (lt_of_block hv) (fun e' => ?_)).trans hv
  obtain ⟨o, ho, hc⟩ := hrow B e'.symm
  rw [hv] at ho; cases ho; cases hc
theorem own_set {w : World} {n₀ Bo k size : Nat} {t e : TypeId} {cs : Array Value} {v : Value} {xs : List Value} (hB : w.heap[Bo]? = some (.cells cs t (0, 0))) (hte : e ≠ t) (hown : w.ownsRow n₀ e size v k xs) (i : Nat) (u : Value) : (w.setCell ⟨Bo, i, none⟩ u).ownsRow n₀ e size v k xs := by
  refine ⟨hown.1, ?_⟩
  rcases hown.2 with h | ⟨g, cap, cur, h1, h2, h3, h4⟩
  · exact .inl h
  · refine .inr ⟨g, cap, cur, h1, h2, (Below.heap_setCell _ _ _ _ ?_).trans h3, h4⟩
    intro e1
    have e1 : g = Bo := e1
    subst e1
    rw [h3] at hB; cases hB; exact hte rfl
theorem drew_below {W w2 : World} (h : Below W.drew.heap.size W.drew w2) : Below W.heap.size W w2 := (Below.drew (Below.refl _ W)).trans h
end Go.Proofs.YtlejeelmlclnkaaGreatDoor
