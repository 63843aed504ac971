/- WORDS FOR THE LAWS: runs of operations; two own lists side by side. -/
import Derived.Test.YtfhgidbmeifflaaNV
import Derived.Deep.AppendLies
set_option linter.unusedSimpArgs false
set_option linter.unusedVariables false
namespace Go.Proofs.Ytfhgidbmeifflaa
open Go.RowKit Go.Maps Go.ChangeMaps Go.MapKept Go.WideShapes Go.WideMaps

/-- an operation that a law may be given -/
def OpIn (o : OpV) : Prop := o.kind ≤ 255 ∧ o.n ≤ 255
noncomputable def runF (s : Sh) (l : List OpV) : Sh := l.foldl (fun s o => (doF s o).1) s
theorem runF_snoc (s : Sh) (l : List OpV) (o : OpV) : runF s (l ++ [o]) = (doF (runF s l) o).1 := by unfold runF; rw [List.foldl_append]; rfl
theorem runF_take (s : Sh) (l : List OpV) {k : Nat} (h : k < l.length) : runF s (l.take (k + 1)) = (doF (runF s (l.take k)) l[k]).1 := by
  rw [List.take_succ_eq_append_getElem h, runF_snoc]
theorem run_inv {s : Sh} {m : Nat} (h : Inv s m) : ∀ l : List OpV, Inv (runF s l) (m + l.length) := by
  intro l
  induction l generalizing s m with
  | nil => exact h
  | cons o l ih =>
    have := ih (doF_inv h o)
    rw [List.length_cons, show m + (l.length + 1) = m + 1 + l.length by omega]
    exact this
theorem run_inv' (l : List OpV) (k : Nat) : Inv (runF newS (l.take k)) k := by
  have := run_inv Inv.new (l.take k)
  exact this.mono (by rw [List.length_take]; omega)
theorem shortB_len {l : List OpV} {n : Nat} (h : shortB l n = true) : l.length ≤ n ∧ ∀ o ∈ l, okOp o = true := by
  unfold shortB at h
  rw [Bool.and_eq_true, decide_eq_true_eq, List.all_eq_true] at h
  exact h
/-- what reader 0, 1, .. read -/
def wasV (s : Sh) (t : Tx) (k : Nat) : List Value := (List.range k).map fun i => .string (mkB (readF s i t).1)
def errV (s : Sh) (t : Tx) (k : Nat) : List Value := (List.range k).map fun i => .int .i64 ((readF s i t).2 : Int)
theorem wasV_succ (s : Sh) (t : Tx) (k : Nat) : wasV s t (k + 1) = wasV s t k ++ [.string (mkB (readF s k t).1)] := by unfold wasV; rw [List.range_succ, List.map_append]; rfl
theorem errV_succ (s : Sh) (t : Tx) (k : Nat) : errV s t (k + 1) = errV s t k ++ [.int .i64 ((readF s k t).2 : Int)] := by unfold errV; rw [List.range_succ, List.map_append]; rfl
theorem wasV_get (s : Sh) (t : Tx) {k i : Nat} (h : i < k) : (wasV s t k)[i]? = some (.string (mkB (readF s i t).1)) := by unfold wasV; rw [List.getElem?_map, List.getElem?_range h]; rfl
theorem errV_get (s : Sh) (t : Tx) {k i : Nat} (h : i < k) : (errV s t k)[i]? = some (.int .i64 ((readF s i t).2 : Int)) := by unfold errV; rw [List.getElem?_map, List.getElem?_range h]; rfl
theorem wasV_len (s : Sh) (t : Tx) (k : Nat) : (wasV s t k).length = k := by simp [wasV]
theorem errV_len (s : Sh) (t : Tx) (k : Nat) : (errV s t k).length = k := by simp [errV]
theorem own_far {w w' : World} {B : Nat} {e : TypeId} {size n : Nat} {v : Value} {X : List Value} {row : Option Nat} (h : w.ownsRow B e size v n X) (hg : w.grownBy w' row) (hne : ∀ g, v.ownBlock = some g → row ≠ some g) : w'.ownsRow B e size v n X := by
  refine h.kept hg ?_
  rcases h.2 with ⟨rfl, _⟩ | ⟨g, cap, cur, rfl, _⟩
  · exact .inl rfl
  · exact .inr fun e => hne g rfl (by rw [← e]; rfl)
/-- two own lists side by side -/
structure R2 (w : World) (B : Nat) (a b : Value) (n : Nat) (X Y : List Value) : Prop where
  oa : w.ownsRow B 9 1 a n X
  ob : w.ownsRow B 29 1 b n Y
  ab : Sep a b
theorem R2.start (w : World) (B : Nat) : R2 w B (.slice none 0 0) (.slice none 0 0) 0 [] [] := ⟨World.ownsRow_nil _ _ _ _, World.ownsRow_nil _ _ _ _, fun g h => by cases h⟩
theorem R2.but {w w' : World} {B n : Nat} {a b : Value} {X Y : List Value} {F : Nat → Prop} (h : R2 w B a b n X Y) (hb : But F w w') (hF : ∀ g, F g → g < B ∨ w.heap.size ≤ g) : R2 w' B a b n X Y := by
  have k : ∀ {e : TypeId} {v : Value} {Z : List Value}, w.ownsRow B e 1 v n Z → w'.ownsRow B e 1 v n Z := fun {e v Z} ho => by
    obtain ⟨h1, h2⟩ := ho
    refine ⟨h1, ?_⟩
    rcases h2 with h2 | ⟨g, cap, cur, e1, e2, e3, rest⟩
    · exact .inl h2
    · have hlt := lt_of_block e3
      exact .inr ⟨g, cap, cur, e1, e2, (hb.block g hlt (fun hx => by rcases hF g hx with h4 | h4 <;> omega)).trans e3, rest⟩
  exact ⟨k h.oa, k h.ob, h.ab⟩
theorem R2.below {w w' : World} {B n : Nat} {a b : Value} {X Y : List Value} (h : R2 w B a b n X Y) (hb : Below w.heap.size w w') : R2 w' B a b n X Y := h.but (F := fun _ => False) (But.of_below hb) (fun g hg => hg.elim)
/-- append of one cell that has just been laid in a block of its own -/
theorem wpList_app1v {P : Program} {ops : Array Oper} {rest : List Oper} {o : Oper} {a : Act} {Q : Exit → Act → World → Prop} {w0 : World} (hgd : o.guard = none) (s x : Operand) (t : TypeId)
    (ho : o.op = .call { callee := .builtin .append, args := #[s, x], argTypes := #[t, t] }) {e : TypeId} {z : Value} {bytes : Nat}
    (ht : P.underlying t = some (.slice e)) (hinfo : (P.info? e).map (fun i => (i.zero, i.size, i.bytes)) = some (some z, 1, bytes)) (hzs : z.cells.size = 1)
    (base : Nat) (v : Value) (n : Nat) (xs : List Value) (u : Value) (h1 : u.oneCell' = true)
    (hs : a.eval s = v) {g : Nat} (hx : a.eval x = .slice (some ⟨g, 0, none⟩) 1 1) (hg : w0.heap.size = g) (hown : w0.ownsRow base e 1 v n xs) (hb : base ≤ w0.heap.size)
    (hbytes : (n + 1) * bytes ≤ 140737488355328) (hmax : n + 1 ≤ 9223372036854775807)
    (h : ∀ g' c' w', w'.ownsRow base e 1 (.slice (some ⟨g', 0, none⟩) (n + 1) c') (n + 1) (xs ++ [u]) → w0.grownBy w' v.ownBlock → (v.ownBlock = some g' ∨ w0.heap.size ≤ g') → Below base w0 w' → wpList P ops Q rest (a.put o.dst (.slice (some ⟨g', 0, none⟩) (n + 1) c')) w') :
    wpList P ops Q (o :: rest) a (w0.alloc (.cells #[u] e)) := by
  subst hg
  obtain ⟨i, hi, hz, hsi, hby⟩ := info_parts hinfo
  refine wpList_append_lies (w0.alloc (.cells #[u] e)) hgd s x t ho base e i z 1 bytes ht hi hz hsi hby hzs (by omega) v n xs hs (hown.alloc _) ⟨w0.heap.size, 0, none⟩ 1 1 [u] hx (by simp)
    (World.news_of_block (cs := #[u]) (t := e) (fr := (0, 0)) (heap_alloc_new w0 _)) (fun y hy => by rw [List.mem_singleton.1 hy]; exact h1) (by omega) (by simpa [maxLen] using hmax) hbytes (by simp; omega) _ rfl ?_
  intro g cap w' hown' hg hgo _
  have hg0 : w0.grownBy w' v.ownBlock := ⟨hg.os, hg.tape, hg.output, Nat.le_trans (by simp) hg.size, fun k hk hne => (hg.block k (by simp; omega) hne).trans (alloc_old _ _ hk)⟩
  exact h g cap w' hown' hg0 (hgo.imp id (fun e => by rw [e]; simp)) (grown_below hg0 (fun k hk => (hown.lt k hk).1) hb)
theorem R2.first {w w' : World} {B n : Nat} {a b a' : Value} {X Y X' : List Value} (h : R2 w B a b n X Y) (ho : w'.ownsRow B 9 1 a' (n + 1) X') (hg : w.grownBy w' a.ownBlock) (hl : ∀ g, a'.ownBlock = some g → a.ownBlock = some g ∨ w.heap.size ≤ g) :
    w'.ownsRow B 29 1 b n Y ∧ Sep a' b :=
  ⟨own_far h.ob hg fun g hb ha => h.ab g ha hb, fun g ha hb => by
    rcases hl g ha with h1 | h1
    · exact h.ab g h1 hb
    · have := (h.ob.lt g hb).2; omega⟩
theorem R2.second {w w' : World} {B n : Nat} {a b b' : Value} {X Y' : List Value} (h1 : w.ownsRow B 9 1 a (n + 1) X) (h2 : Sep a b) (ho : w'.ownsRow B 29 1 b' (n + 1) Y') (hg : w.grownBy w' b.ownBlock) (hl : ∀ g, b'.ownBlock = some g → b.ownBlock = some g ∨ w.heap.size ≤ g) :
    R2 w' B a b' (n + 1) X Y' :=
  ⟨own_far h1 hg fun g ha hb => h2 g ha hb, ho, fun g ha hb => by
    rcases hl g hb with h3 | h3
    · exact h2 g ha h3
    · have := (h1.lt g ha).2; omega⟩
theorem info_str : (Try.prog.info? 9).map (fun i => (i.zero, i.size, i.bytes)) = some (some (.string .empty), 1, 16) := by kernel_rfl
theorem info_err : (Try.prog.info? 29).map (fun i => (i.zero, i.size, i.bytes)) = some (some (.int .i64 0), 1, 8) := by kernel_rfl
end Go.Proofs.Ytfhgidbmeifflaa
