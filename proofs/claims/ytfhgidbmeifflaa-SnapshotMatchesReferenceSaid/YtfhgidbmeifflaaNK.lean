/- WORDS: a shelf under way in Write. -/
import Derived.Test.YtfhgidbmeifflaaNH
set_option linter.unusedSimpArgs false
set_option linter.unusedVariables false
namespace Go.Proofs.Ytfhgidbmeifflaa
open Go.RowKit Go.Maps Go.ChangeMaps Go.MapKept Go.WideShapes Go.WideMaps

theorem Rd.but {F : Nat → Prop} {w w' : World} {A : Option Addr} {xs : List Value} (h : Rd w A xs) (hb : But F w w') (hA : ∀ b off, A = some ⟨b, off, none⟩ → ¬ F b) : Rd w' A xs := by
  intro hx
  obtain ⟨b, off, e, hz, hc⟩ := h hx
  refine ⟨b, off, e, Nat.lt_of_lt_of_le hz hb.size, fun i u hu => ?_⟩
  exact (World.cell?_of_block (a := ⟨b, off + i, none⟩) (hb.block b hz (hA b off e))).trans (hc i u hu)
theorem MapAt.but {F : Nat → Prop} {w w' : World} {P : Program} {k : TypeId} {b n : Nat} {M : Lit → Option Value} (h : MapAt w P k b M n) (hb : But F w w') (hF : ¬ F b) : MapAt w' P k b M n := h.same (hb.block b h.lt hF)
/-- a shelf under way: since world w, blocks of X (and new ones) alone have turned; its blocks are F's, or lie from B on -/
def Wr (w : World) (X : Nat → Prop) (B : Nat) (p : Nat) (F : Nat → Prop) (bm br nk0 : Nat) (s1 : Sh) (wx : World) : Prop :=
  ∃ (F' : Nat → Prop) (nk' : Nat) (hd' : List UInt8 → Option Value), ShMem wx p F' s1 bm br nk' hd' ∧ nk' ≤ nk0 ∧ (∀ g, F' g → F g ∨ B ≤ g) ∧ But X w wx
/-- one value behind a history: the append, then the store into the map -/
theorem Wr_put {w wx u1 u2 : World} {p B : Nat} {F F' X : Nat → Prop} {bm br nk' nk'' nk1 : Nat} {hd' : List UInt8 → Option Value} {s1 : Sh} (h : ShMem wx p F' s1 bm br nk' hd') (hF : ∀ g, F' g → F g ∨ B ≤ g) (hX : ∀ g, F' g → X g ∨ w.heap.size ≤ g) (hBz : B ≤ wx.heap.size) (hB : But X w wx)
    (t : List UInt8) (x : Sn.Val) (g' c : Nat) (ob : Option Nat) (hob : ob = ((hd' t).getD (.slice none 0 0)).ownBlock)
    (hz : wx.heap.size ≤ u1.heap.size) (hk : ∀ k, k < wx.heap.size → some k ≠ ob → u1.heap[k]? = wx.heap[k]?) (hos : u1.os = wx.os) (htp : u1.tape = wx.tape) (hout : u1.output = wx.output)
    (own : u1.ownsRow 0 62 4 (.slice (some ⟨g', 0, none⟩) ((s1.keys t).length + 1) c) ((s1.keys t).length + 1) (rows (s1.keys t) ++ vCells x))
    (hloc : ob = some g' ∨ wx.heap.size ≤ g')
    (M2 : MapAt u2 Try.prog 9 bm (updM (keyM hd') (.string t) (.slice (some ⟨g', 0, none⟩) ((s1.keys t).length + 1) c)) nk'') (G2 : u1.grownBy u2 (some bm)) (hn1 : nk'' ≤ nk1) (hn2 : nk'' ≤ s1.lim) :
    Wr w X B p F bm br nk1 { s1 with keys := setK s1.keys t (s1.keys t ++ [x]) } u2 ∧ ∀ g, g < wx.heap.size → ¬ F' g → u2.heap[g]? = wx.heap[g]? := by
  have obF : ∀ g, ob = some g → F' g ∧ g ≠ p ∧ g ≠ bm ∧ g ≠ br := fun g hg => by
    rw [hob] at hg
    cases e : hd' t with
    | none => rw [e] at hg; cases hg
    | some v => rw [e] at hg; exact ⟨h.frow t v g e hg, h.row_ne e hg⟩
  have keep : ∀ g, g < wx.heap.size → g ≠ bm → ob ≠ some g → u2.heap[g]? = wx.heap[g]? := fun g hg h1 h2 =>
    (G2.block g (Nat.lt_of_lt_of_le hg hz) (fun e => by cases e; exact h1 rfl)).trans (hk g hg (fun e => h2 e.symm))
  have hg'b : g' ≠ bm := by
    rintro rfl
    rcases hloc with e | e
    · exact (obF g' e).2.2.1 rfl
    · have := h.lt g' h.fm; omega
  have hsz2 : wx.heap.size ≤ u2.heap.size := Nat.le_trans hz G2.size
  have er : rows (s1.keys t ++ [x]) = rows (s1.keys t) ++ vCells x := by rw [rows_app]; unfold rows; simp
  have row2 : u2.ownsRow 0 62 4 (.slice (some ⟨g', 0, none⟩) ((s1.keys t).length + 1) c) ((s1.keys t).length + 1) (rows (s1.keys t ++ [x])) := by
    rw [er]
    exact own.kept G2 (.inr (fun e => by
      have e : some g' = some bm := e
      cases e; exact hg'b rfl))
  have hown : ∀ g, (Value.slice (some ⟨g', 0, none⟩) ((s1.keys t).length + 1) c).ownBlock = some g → g = g' := fun g hg => by cases hg; rfl
  refine ⟨⟨_, nk'', _, h.put t (.slice (some ⟨g', 0, none⟩) ((s1.keys t).length + 1) c) (s1.keys t ++ [x]) hsz2 (fun g hg h1 h2 h3 => ?_) ?_ M2 (by simp) (by rw [List.length_append]; exact row2) (fun g hg => ?_) rfl rfl rfl hn2, hn1, fun g hg => ?_, ?_⟩, fun g hg hn => keep g hg (fun e => hn (e ▸ h.fm)) (fun e => hn (obF g e).1)⟩
  · refine keep g (h.lt g hg) h2 (fun e => ?_)
    rw [hob] at e
    cases e2 : hd' t with
    | none => rw [e2] at e; cases e
    | some v => rw [e2] at e; exact h3 v e2 e
  · refine (keep p (h.lt p h.fp) (fun e => h.ne_p.1 e.symm) (fun e => (obF p e).2.1 rfl)).trans h.blk
  · rw [hown g hg]
    rcases hloc with e | e
    · refine .inr ?_
      rw [hob] at e
      cases e2 : hd' t with
      | none => rw [e2] at e; cases e
      | some v => rw [e2] at e; exact ⟨v, rfl, e⟩
    · exact .inl e
  · rcases hg with hg | hg
    · exact hF g hg
    · rw [hown g hg]
      rcases hloc with e | e
      · exact hF g' (obF g' e).1
      · exact .inr (Nat.le_trans hBz e)
  · refine ⟨(G2.os.trans hos).trans hB.os, (G2.tape.trans htp).trans hB.tape, (G2.output.trans hout).trans hB.output, Nat.le_trans hB.size hsz2, fun k hk' hx => ?_⟩
    refine (keep k (Nat.lt_of_lt_of_le hk' hB.size) (fun e => ?_) (fun e => ?_)).trans (hB.block k hk' hx)
    · rw [e] at hx hk'
      rcases hX bm h.fm with h1 | h1
      · exact hx h1
      · omega
    · rcases hX k (obF k e).1 with h1 | h1
      · exact hx h1
      · omega
theorem wrapN (x : Nat) (h : x ≤ 1000000) : IntKind.i64.wrap ((x : Int) + 1) = ((x + 1 : Nat) : Int) := by
  simp [IntKind.wrap, IntKind.bits, IntKind.signed]; omega
theorem Wr_start {w wr : World} {p : Nat} {F : Nat → Prop} {s : Sh} {bm br nk : Nat} {hd : List UInt8 → Option Value} (h : ShMem wr p F s bm br nk hd) (hb : But F w wr) (r k : Nat) :
    Wr w F r p F bm br nk { s with ver := s.ver + 1, clk := s.clk + 1, lim := s.lim + k } ((wr.setCell ⟨p, 0, none⟩ (.int .i64 ((s.ver + 1 : Nat) : Int))).setCell ⟨p, 1, none⟩ (.int .i64 ((s.clk + 1 : Nat) : Int))).drew := by
  have hB : But (fun g => g = p) wr ((wr.setCell ⟨p, 0, none⟩ (.int .i64 ((s.ver + 1 : Nat) : Int))).setCell ⟨p, 1, none⟩ (.int .i64 ((s.clk + 1 : Nat) : Int))).drew :=
    But.drew (But.set (X := fun g => g = p) (But.set (X := fun g => g = p) (But.refl _ _) rfl _) rfl _)
  refine ⟨F, nk, hd, h.same_keys hB.size (fun g hg h1 _ => hB.block g (h.lt g hg) h1) ?_ (h.rm.same (hB.block br (h.lt br h.fr) h.ne_p.2)) rfl (Nat.le_add_right _ _), Nat.le_refl _, fun g hg => .inl hg, hb.trans ⟨hB.os, hB.tape, hB.output, hB.size, fun k hk hx => hB.block k hk (fun e => hx (e ▸ h.fp))⟩⟩
  show ((wr.setCell ⟨p, 0, none⟩ (.int .i64 ((s.ver + 1 : Nat) : Int))).setCell ⟨p, 1, none⟩ (.int .i64 ((s.clk + 1 : Nat) : Int))).heap[p]? = _
  simp [World.setCell, Array.getElem?_modify, h.blk]
theorem dropV_len (c : Nat) (l : List Sn.Val) : (dropV c l).length ≤ l.length + 1 := by
  unfold dropV
  split
  · split
    · omega
    · simp
  · omega
theorem dropK_len (c : Nat) (f : Tx → List Sn.Val) (d : List Tx) (t : Tx) : (dropK c f d t).length ≤ (f t).length + 1 := by
  unfold dropK
  split
  · exact dropV_len _ _
  · omega
theorem putK_len (c : Nat) (f : Tx → List Sn.Val) (ps : List (Tx × Tx)) (done : List Tx) (t : Tx) : (putK c f ps done t).length ≤ (f t).length + 1 := by
  unfold putK
  split
  · simp
  · omega
end Go.Proofs.Ytfhgidbmeifflaa
