/- WORDS for the last loop of the program's Merge: what the three rests hold, what lies in the row of stable elements. -/
import Derived.Test.YtkklpmfjbkapiaaW7
namespace Go.Proofs.Ytkklpmfjbkapiaa
open Go.RowKit

def stCells (p : Nat × Nat × Nat) : List Value := [.int .i64 p.1, .int .i64 p.2.1, .int .i64 p.2.2]

def RdT (base : Nat) (w : World) (A : Option Addr) (P : List (Nat × Nat × Nat)) : Prop :=
  ∀ k (h : k < P.length), ∃ b, A = some ⟨b, 0, none⟩ ∧ base ≤ b ∧ b < w.heap.size ∧ w.cell? ⟨b, k * 3, none⟩ = some (.int .i64 P[k].1) ∧ w.cell? ⟨b, k * 3 + 1, none⟩ = some (.int .i64 P[k].2.1) ∧ w.cell? ⟨b, k * 3 + 2, none⟩ = some (.int .i64 P[k].2.2)
theorem stCells_at (P : List (Nat × Nat × Nat)) : ∀ (k : Nat) (h : k < P.length), (P.flatMap stCells)[k * 3]? = some (.int .i64 P[k].1) ∧ (P.flatMap stCells)[k * 3 + 1]? = some (.int .i64 P[k].2.1) ∧ (P.flatMap stCells)[k * 3 + 2]? = some (.int .i64 P[k].2.2) := by
  induction P with
  | nil => intro k h; cases h
  | cons p P ih =>
    intro k h
    cases k with
    | zero => simp [stCells]
    | succ k =>
      have := ih k (by simpa using h)
      have e : (stCells p).length = 3 := rfl
      rw [List.flatMap_cons, show (k + 1) * 3 = (stCells p).length + k * 3 by omega, show (stCells p).length + k * 3 + 1 = (stCells p).length + (k * 3 + 1) by omega, show (stCells p).length + k * 3 + 2 = (stCells p).length + (k * 3 + 2) by omega,
        List.getElem?_append_right (by omega), List.getElem?_append_right (by omega), List.getElem?_append_right (by omega)]
      simpa using this
theorem RdT.of_own {w : World} {base e : Nat} {A : Option Addr} {n c : Nat} {P : List (Nat × Nat × Nat)} (h : w.ownsRow base e 3 (.slice A n c) n (P.flatMap stCells)) : RdT base w A P := by
  intro k hk
  obtain ⟨h1, h2, h3⟩ := stCells_at P k hk
  have hl := h.1
  have hlen : ∀ Q : List (Nat × Nat × Nat), (Q.flatMap stCells).length = Q.length * 3 := by
    intro Q; induction Q with
    | nil => rfl
    | cons p Q ih => rw [List.flatMap_cons, List.length_append, ih]; simp [stCells]; omega
  rw [hlen] at hl
  rcases h.2 with ⟨hv, hn⟩ | ⟨g, cap, cur, hv, hbg, hg, _, _, _, ht⟩
  · omega
  · injection hv with hA _ _
    have hgl : g < w.heap.size := lt_of_block hg
    have cell : ∀ j u, (P.flatMap stCells)[j]? = some u → w.cell? ⟨g, j, none⟩ = some u := by
      intro j u hu
      rw [cell_of_row w g j cur e (0, 0) hg, ← Array.getElem?_toList]
      rw [← ht, List.getElem?_take] at hu
      split at hu
      · exact hu
      · cases hu
    exact ⟨g, hA, hbg, hgl, cell _ _ h1, cell _ _ h2, cell _ _ h3⟩
theorem RdT.below {base B : Nat} {w w' : World} {A : Option Addr} {P : List (Nat × Nat × Nat)} (h : RdT base w A P) (hb : Below B w w') (hB : w.heap.size ≤ B) : RdT base w' A P := by
  intro k hk
  obtain ⟨b, e, hle, hlt, h1, h2, h3⟩ := h k hk
  exact ⟨b, e, hle, Nat.lt_of_lt_of_le hlt hb.size, (hb.cell (p := ⟨b, k * 3, none⟩) (by simp; omega)).trans h1, (hb.cell (p := ⟨b, k * 3 + 1, none⟩) (by simp; omega)).trans h2, (hb.cell (p := ⟨b, k * 3 + 2, none⟩) (by simp; omega)).trans h3⟩

theorem grown_cell {w w' : World} {g : Nat} (hg : w.grownBy w' (some g)) {p : Addr} (hp : p.block ≠ g) (hlt : p.block < w.heap.size) : w'.cell? p = w.cell? p :=
  World.cell?_of_block (hg.block p.block hlt (fun e => hp (by injection e)))

theorem free_row {w : World} {g : Nat} {cs : Array Value} {t : TypeId} (h : w.heap[g]? = some (.cells cs t (0, 0))) (i : Nat) : w.frozen? ⟨g, i, none⟩ = false := by simp [World.frozen?, h]
/-- block g is a rest that reads as the list; the list itself lies in the world w0, which stays -/
def Hold (w0 w : World) (g : Nat) (l : List ByteArray) : Prop :=
  ∃ A c, w.heap[g]? = some (.cells #[.slice A l.length c] 51 (0, 0)) ∧ l.length ≤ c ∧ c ≤ 9223372036854775807 ∧ Rd w0 A (l.map Value.string)
theorem Hold.blk {w0 w w' : World} {g : Nat} {l : List ByteArray} (h : Hold w0 w g l) (hw : w'.heap[g]? = w.heap[g]?) : Hold w0 w' g l := by
  obtain ⟨A, c, h1, h2⟩ := h
  exact ⟨A, c, hw.trans h1, h2⟩
theorem Hold.lt {w0 w : World} {g : Nat} {l : List ByteArray} (h : Hold w0 w g l) : g < w.heap.size := by obtain ⟨A, c, h1, _⟩ := h; exact lt_of_block h1
theorem Hold.but {w0 w w' : World} {g g' : Nat} {l : List ByteArray} (h : Hold w0 w g l) (hw : w.grownBy w' (some g')) (hne : g ≠ g') : Hold w0 w' g l :=
  h.blk (hw.block g h.lt (fun e => hne (by injection e)))
theorem Hold.below {w0 w w' : World} {g : Nat} {l : List ByteArray} {B : Nat} (h : Hold w0 w g l) (hb : Below B w w') (hB : g < B) : Hold w0 w' g l := h.blk (hb.block g hB)
theorem Hold.new {w0 w : World} {A : Option Addr} {l : List ByteArray} {c : Nat} (h : Rd w0 A (l.map Value.string)) (h1 : l.length ≤ c) (h2 : c ≤ 9223372036854775807) : Hold w0 (w.alloc (.cells #[.slice A l.length c] 51)) w.heap.size l :=
  ⟨A, c, heap_alloc_new w _, h1, h2, h⟩

/-- what a cut leaves: the first n are handed back; the rest is what lies behind the one that follows -/
def CutHold (w0 w : World) (g : Nat) (l : List ByteArray) (n : Nat) (e : Ending) (w' : World) : Prop :=
  ∃ A, e = .returned (.slice A n n) ∧ Rd w0 A ((l.take n).map Value.string) ∧ Hold w0 w' g (l.drop (n + 1)) ∧ w.grownBy w' (some g) ∧ w'.heap.size = w.heap.size

theorem cut_hold (g : Nat) (l : List ByteArray) (n : Nat) (x : Int) (w0 w : World) (h : Hold w0 w g l) (hx : x = (n : Int)) (hn : n ≤ l.length) (hn2 : n ≤ 1000000) :
    Calls Try.prog 25 #[.pointer (some ⟨g, 0, none⟩), .int .i64 x] w (CutHold w0 w g l n) := by
  subst hx
  obtain ⟨A, c, h1, h2, h3, h4⟩ := h
  refine (cut_any g A l c n _ w0 w h1 rfl hn hn2 h2 h3 h4).mono ?_
  rintro e w' ⟨rfl, A', c', k1, k2, k3, m, rfl⟩
  have hgr : w.grownBy ((w.setCell ⟨g, 0, none⟩ (.slice A' (l.length - (n + 1)) c')).drewN m) (some g) :=
    ⟨rfl, rfl, rfl, by simp [World.drewN, World.setCell], fun k _ hk => Below.heap_setCell w ⟨g, 0, none⟩ _ k (fun e => hk (by rw [e]))⟩
  refine ⟨A, rfl, by rw [List.map_take]; exact h4.pre n, ⟨A', c', ?_, by rw [List.length_drop]; exact k1, k2, k3⟩, hgr, by simp [World.drewN, World.setCell]⟩
  rw [List.length_drop]
  exact one_setCell h1
theorem below_grown {B g : Nat} {a w w' : World} (h : Below B a w) (hg : w.grownBy w' (some g)) (hB : B ≤ g) (hs : B ≤ w.heap.size) : Below B a w' := h.grown hg hs (fun k e => by cases e; exact hB)

/-- what 'merged' hands back, by the chunk -/
theorem mergedV_none {b o t : List ByteArray} {vo vt : Value} (h : Sq.chunk b o t = none) : mergedV b o t vo vt = (.slice none 0 0, false) := by
  unfold Sq.chunk at h
  unfold mergedV
  split at h
  · cases h
  · rename_i h1
    rw [if_neg h1]
    split at h
    · cases h
    · rename_i h2; rw [if_neg h2]
theorem mergedV_some {b o t c : List ByteArray} {vo vt : Value} (h : Sq.chunk b o t = some c) : (mergedV b o t vo vt = (vo, true) ∧ c = o) ∨ (mergedV b o t vo vt = (vt, true) ∧ c = t) := by
  unfold Sq.chunk at h
  unfold mergedV
  split at h
  · rename_i h1; rw [if_pos h1]; injection h with h; exact .inr ⟨rfl, h.symm⟩
  · rename_i h1
    rw [if_neg h1]
    split at h
    · rename_i h2; rw [if_pos h2]; injection h with h; exact .inl ⟨rfl, h.symm⟩
    · cases h

theorem mergedV_bool (b o t : List ByteArray) (vo vt : Value) : (mergedV b o t vo vt).2 = (Sq.chunk b o t).isSome := by
  cases h : Sq.chunk b o t with
  | none => rw [mergedV_none h]; rfl
  | some c => rcases mergedV_some (vo := vo) (vt := vt) h with ⟨e, _⟩ | ⟨e, _⟩ <;> rw [e] <;> rfl
theorem mergedV_part {w : World} {B C : Option Addr} {n2 n3 c2 c3 : Nat} {b o t : List ByteArray} (hB : Rd w B (o.map Value.string)) (hC : Rd w C (t.map Value.string)) (h2 : n2 = o.length) (h3 : n3 = t.length) :
    ∀ c, Sq.chunk b o t = some c → ∃ A n cap, (mergedV b o t (.slice B n2 c2) (.slice C n3 c3)).1 = .slice A n cap ∧ n = c.length ∧ Rd w A (c.map Value.string) := by
  intro c hc
  rcases mergedV_some (vo := .slice B n2 c2) (vt := .slice C n3 c3) hc with ⟨e, rfl⟩ | ⟨e, rfl⟩
  · rw [e]; exact ⟨B, n2, c2, rfl, h2, hB⟩
  · rw [e]; exact ⟨C, n3, c3, rfl, h3, hC⟩
theorem drop_next (l : List ByteArray) {i n p : Nat} (h : i + n = p) : (l.drop i).drop (n + 1) = l.drop (p + 1) := by rw [List.drop_drop]; congr 1; omega

/-- how far the merging has come: k stable elements are behind us, the places are i, j, m; or the end has been passed -/
def Come (b o t : List ByteArray) (S : List (Nat × Nat × Nat)) (k i j m : Nat) (out : List ByteArray) : Prop :=
  (k ≤ S.length ∧ Sq.mrg b o t = (Sq.mg b o t (S.drop k) i j m).map (out ++ ·) ∧ Sq.Inc3 i j m (S.drop k) ∧ i ≤ b.length ∧ j ≤ o.length ∧ m ≤ t.length) ∨ (k = S.length + 1 ∧ Sq.mrg b o t = some out)

theorem come_start (b o t : List ByteArray) : Come b o t (Sq.stabOf b o t) 0 0 0 0 [] :=
  .inl ⟨Nat.zero_le _, by simp [Sq.mrg], Sq.stabOf_inc b o t, Nat.zero_le _, Nat.zero_le _, Nat.zero_le _⟩

theorem come_mid {b o t : List ByteArray} {S : List (Nat × Nat × Nat)} (hS : S = Sq.stabOf b o t) {k i j m : Nat} {out : List ByteArray} (h : Come b o t S k i j m out) (hk : k < S.length) {p q r : Nat} (hp : S[k] = (p, q, r)) :
    i ≤ p ∧ j ≤ q ∧ m ≤ r ∧ p < b.length ∧ q < o.length ∧ r < t.length ∧
    (Sq.chunk ((b.drop i).take (p - i)) ((o.drop j).take (q - j)) ((t.drop m).take (r - m)) = none → Sq.mrg b o t = none) ∧
    (∀ (hb : p < b.length) c, Sq.chunk ((b.drop i).take (p - i)) ((o.drop j).take (q - j)) ((t.drop m).take (r - m)) = some c → Come b o t S (k + 1) (p + 1) (q + 1) (r + 1) (out ++ c ++ [b[p]])) := by
  rcases h with ⟨_, h1, h2, _⟩ | ⟨e, _⟩
  case inr => omega
  rw [List.drop_eq_getElem_cons hk, hp] at h1 h2
  obtain ⟨i1, i2, i3, i4⟩ := h2
  obtain ⟨v, v1, v2, v3⟩ := Sq.stabOf_val b o t (p, q, r) (by rw [← hS, ← hp]; exact List.getElem_mem hk)
  have l1 := (List.getElem?_eq_some_iff.1 v1).1
  have l2 := (List.getElem?_eq_some_iff.1 v2).1
  have l3 := (List.getElem?_eq_some_iff.1 v3).1
  simp only at l1 l2 l3
  have e1 : (b.take p).drop i = (b.drop i).take (p - i) := by rw [List.drop_take]
  have e2 : (o.take q).drop j = (o.drop j).take (q - j) := by rw [List.drop_take]
  have e3 : (t.take r).drop m = (t.drop m).take (r - m) := by rw [List.drop_take]
  simp only [Sq.mg] at h1
  rw [e1, e2, e3] at h1
  refine ⟨i1, i2, i3, l1, l2, l3, fun h => ?_, fun hb c h => ?_⟩
  · rw [h1, h]; rfl
  · rw [h] at h1
    refine .inl ⟨hk, ?_, i4, l1, l2, l3⟩
    rw [h1, List.getElem?_eq_getElem hb]
    simp only [Option.map_map, Option.toList_some]
    congr 1
    funext l
    simp [List.append_assoc]

theorem come_last {b o t : List ByteArray} {S : List (Nat × Nat × Nat)} {k i j m : Nat} {out : List ByteArray} (h : Come b o t S k i j m out) (hk : k = S.length) :
    i ≤ b.length ∧ j ≤ o.length ∧ m ≤ t.length ∧
    (Sq.chunk ((b.drop i).take (b.length - i)) ((o.drop j).take (o.length - j)) ((t.drop m).take (t.length - m)) = none → Sq.mrg b o t = none) ∧
    (∀ c, Sq.chunk ((b.drop i).take (b.length - i)) ((o.drop j).take (o.length - j)) ((t.drop m).take (t.length - m)) = some c → ∀ i' j' m', Come b o t S (k + 1) i' j' m' (out ++ c)) := by
  subst hk
  rcases h with ⟨_, h1, h2, h3, h4, h5⟩ | ⟨e, _⟩
  case inr => omega
  rw [List.drop_of_length_le (Nat.le_refl _)] at h1
  simp only [Sq.mg] at h1
  have e : ∀ (l : List ByteArray) (n : Nat), (l.drop n).take (l.length - n) = l.drop n := fun l n => List.take_of_length_le (by simp)
  rw [e, e, e]
  refine ⟨h3, h4, h5, fun h => ?_, fun c h i' j' m' => .inr ⟨rfl, ?_⟩⟩
  · rw [h1, h]; rfl
  · rw [h1, h]; rfl

theorem come_any {b o t : List ByteArray} {S : List (Nat × Nat × Nat)} (hS : S = Sq.stabOf b o t) {k i j m : Nat} {out : List ByteArray} (h : Come b o t S k i j m out) (hk : k < (S ++ [(b.length, o.length, t.length)]).length) {p q r : Nat} (hp : (S ++ [(b.length, o.length, t.length)])[k] = (p, q, r)) :
    i ≤ p ∧ j ≤ q ∧ m ≤ r ∧ p ≤ b.length ∧ q ≤ o.length ∧ r ≤ t.length ∧
    (Sq.chunk ((b.drop i).take (p - i)) ((o.drop j).take (q - j)) ((t.drop m).take (r - m)) = none → Sq.mrg b o t = none) ∧
    (∀ c, Sq.chunk ((b.drop i).take (p - i)) ((o.drop j).take (q - j)) ((t.drop m).take (r - m)) = some c → (∀ (hb : p < b.length), Come b o t S (k + 1) (p + 1) (q + 1) (r + 1) (out ++ c ++ [b[p]])) ∧ (¬ p < b.length → Come b o t S (k + 1) (p + 1) (q + 1) (r + 1) (out ++ c))) := by
  by_cases hlt : k < S.length
  · rw [List.getElem_append_left hlt] at hp
    obtain ⟨h1, h2, h3, h4, h5, h6, h7, h8⟩ := come_mid hS h hlt hp
    exact ⟨h1, h2, h3, by omega, by omega, by omega, h7, fun c hc => ⟨fun hb => h8 hb c hc, fun hb => absurd h4 hb⟩⟩
  · simp at hk
    obtain rfl : k = S.length := by omega
    rw [List.getElem_append_right (by omega)] at hp
    simp at hp
    obtain ⟨rfl, rfl, rfl⟩ := hp
    obtain ⟨h1, h2, h3, h4, h5⟩ := come_last h rfl
    exact ⟨h1, h2, h3, Nat.le_refl _, Nat.le_refl _, Nat.le_refl _, h4, fun c hc => ⟨fun hb => absurd hb (by omega), fun _ => h5 c hc _ _ _⟩⟩

theorem come_end {b o t : List ByteArray} {S : List (Nat × Nat × Nat)} {k i j m : Nat} {out : List ByteArray} (h : Come b o t S k i j m out) (hk : S.length < k) : Sq.mrg b o t = some out := by
  rcases h with ⟨h1, _⟩ | ⟨_, h2⟩
  · omega
  · exact h2

theorem chunk_len {b o t c : List ByteArray} {n : Nat} (h : Sq.chunk b o t = some c) (ho : o.length ≤ n) (ht : t.length ≤ n) : c.length ≤ n := by
  rcases Sq.chunk_sub h with rfl | rfl <;> assumption

/-- three blocks alone have turned -/
structure But3 (gx gy gz : Nat) (w w' : World) : Prop where
  os : w'.os = w.os
  tape : w'.tape = w.tape
  output : w'.output = w.output
  size : w'.heap.size = w.heap.size
  block : ∀ k, k ≠ gx → k ≠ gy → k ≠ gz → k < w.heap.size → w'.heap[k]? = w.heap[k]?
theorem But3.below {gx gy gz B : Nat} {w w' : World} (h : But3 gx gy gz w w') (h1 : B ≤ gx) (h2 : B ≤ gy) (h3 : B ≤ gz) (hB : B ≤ w.heap.size) : Below B w w' :=
  ⟨h.os, h.tape, h.output, by rw [h.size]; exact Nat.le_refl _, fun k hk => h.block k (by omega) (by omega) (by omega) (by omega)⟩
theorem But3.own {gx gy gz base : Nat} {e : TypeId} {size n : Nat} {v : Value} {xs : List Value} {w w' : World} (h : But3 gx gy gz w w') (ho : w.ownsRow base e size v n xs) (h1 : gx < base) (h2 : gy < base) (h3 : gz < base) : w'.ownsRow base e size v n xs := by
  refine ⟨ho.1, ?_⟩
  rcases ho.2 with h' | ⟨g, cap, cur, e1, e2, e3, e4⟩
  · exact .inl h'
  · exact .inr ⟨g, cap, cur, e1, e2, (h.block g (by omega) (by omega) (by omega) (lt_of_block e3)).trans e3, e4⟩

theorem But3.mk3 {gx gy gz : Nat} {w wx wy wz : World} (hx : w.grownBy wx (some gx)) (hy : wx.grownBy wy (some gy)) (hz : wy.grownBy wz (some gz)) (sx : wx.heap.size = w.heap.size) (sy : wy.heap.size = wx.heap.size) (sz : wz.heap.size = wy.heap.size) : But3 gx gy gz w wz := by
  refine ⟨hz.os.trans (hy.os.trans hx.os), hz.tape.trans (hy.tape.trans hx.tape), hz.output.trans (hy.output.trans hx.output), sz.trans (sy.trans sx), fun k n1 n2 n3 hk => ?_⟩
  rw [hz.block k (by omega) (fun e => n3 (by injection e)), hy.block k (by omega) (fun e => n2 (by injection e)), hx.block k hk (fun e => n1 (by injection e))]
theorem But3.drewN {gx gy gz : Nat} {w w' : World} (h : But3 gx gy gz w w') (n : Nat) : But3 gx gy gz w (w'.drewN n) := ⟨h.os, h.tape, h.output, h.size, h.block⟩
theorem But3.cell {gx gy gz : Nat} {w w' : World} (h : But3 gx gy gz w w') {p : Addr} (h1 : p.block ≠ gx) (h2 : p.block ≠ gy) (h3 : p.block ≠ gz) (hlt : p.block < w.heap.size) : w'.cell? p = w.cell? p :=
  World.cell?_of_block (h.block p.block h1 h2 h3 hlt)

theorem set3_blk {w : World} {g : Nat} {a b c x y z : Value} {t : TypeId} (h : w.heap[g]? = some (.cells #[a, b, c] t (0, 0))) : (((w.setCell ⟨g, 0, none⟩ x).setCell ⟨g, 1, none⟩ y).setCell ⟨g, 2, none⟩ z).heap[g]? = some (.cells #[x, y, z] t (0, 0)) := by
  simp [World.setCell, Array.getElem?_modify, h]
theorem Hold.set {w0 w : World} {g : Nat} {l : List ByteArray} (h : Hold w0 w g l) {p : Addr} (hp : g ≠ p.block) (u : Value) : Hold w0 (w.setCell p u) g l := h.blk (Below.heap_setCell w p u g hp)
theorem int_next (p : Nat) : Value.int .i64 (p : Int) = .int .i64 (((p + 1 : Nat) : Int) - 1) := by congr 1; omega

theorem rests_start {A B C : Option Addr} {c1 c2 c3 : Nat} {b o t : List ByteArray} {w0 w : World} (h1 : Rd w0 A (b.map Value.string)) (h2 : Rd w0 B (o.map Value.string)) (h3 : Rd w0 C (t.map Value.string)) (cb : b.length ≤ c1) (co : o.length ≤ c2) (ct : t.length ≤ c3)
    (cb' : c1 ≤ 9223372036854775807) (co' : c2 ≤ 9223372036854775807) (ct' : c3 ≤ 9223372036854775807) (W : World)
    (hW : W = (((w.alloc (.cells #[.slice A b.length c1] 51)).alloc (.cells #[.slice B o.length c2] 51)).alloc (.cells #[.slice C t.length c3] 51)).alloc (.cells #[.int .i64 (-1), .int .i64 (-1), .int .i64 (-1)] 48)) :
    Hold w0 W w.heap.size (b.drop 0) ∧ Hold w0 W (w.heap.size + 1) (o.drop 0) ∧ Hold w0 W (w.heap.size + 1 + 1) (t.drop 0) ∧ W.heap[w.heap.size + 1 + 1 + 1]? = some (.cells #[.int .i64 (((0 : Nat) : Int) - 1), .int .i64 (((0 : Nat) : Int) - 1), .int .i64 (((0 : Nat) : Int) - 1)] 48 (0, 0)) ∧ Below w.heap.size w W ∧ W.heap.size = w.heap.size + 4 := by
  subst hW
  have k1 := Hold.new (w := w) h1 cb cb'
  have k2 := Hold.new (w := w.alloc (.cells #[.slice A b.length c1] 51)) h2 co co'
  have k3 := Hold.new (w := (w.alloc (.cells #[.slice A b.length c1] 51)).alloc (.cells #[.slice B o.length c2] 51)) h3 ct ct'
  have hnew := heap_alloc_new (((w.alloc (.cells #[.slice A b.length c1] 51)).alloc (.cells #[.slice B o.length c2] 51)).alloc (.cells #[.slice C t.length c3] 51)) (.cells #[.int .i64 (-1), .int .i64 (-1), .int .i64 (-1)] 48)
  have al : ∀ (u : World) (x : Obj), Below u.heap.size u (u.alloc x) := fun u x => (Below.refl _ _).alloc (Nat.le_refl _) x
  simp only [World.size_alloc] at k2 k3 hnew
  simp only [List.drop_zero]
  refine ⟨((k1.below (al _ _) (by simp)).below (al _ _) (by simp <;> omega)).below (al _ _) (by simp <;> omega), (k2.below (al _ _) (by simp)).below (al _ _) (by simp <;> omega), k3.below (al _ _) (by simp), hnew, ?_, by simp⟩
  exact (((al _ _).trans ((al _ _).mono (by simp))).trans ((al _ _).mono (by simp; omega))).trans ((al _ _).mono (by simp; omega))
end Go.Proofs.Ytkklpmfjbkapiaa
