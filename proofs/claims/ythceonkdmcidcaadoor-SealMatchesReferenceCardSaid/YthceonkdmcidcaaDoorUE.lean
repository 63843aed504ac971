/- THREE OWN LISTS SIDE BY SIDE, each written alone; plain: the texts that are made. -/
import Derived.Test.YthceonkdmcidcaaDoorU0
set_option linter.unusedSimpArgs false
set_option linter.unusedVariables false
namespace Go.Proofs.YthceonkdmcidcaaDoor
open Go.RowKit

def Sep (a b : Value) : Prop := ∀ g, a.ownBlock = some g → b.ownBlock ≠ some g
theorem Sep.symm {a b : Value} (h : Sep a b) : Sep b a := fun g hb ha => h g ha hb
theorem Sep.nil_ (a : Value) : Sep a (.slice none 0 0) := fun g _ h => by simp [Value.ownBlock] at h
def Own (w : World) (B : Nat) (v : Value) (X : List (List UInt8)) : Prop := ∃ n, n = X.length ∧ w.ownsRow B 9 1 v n (sv X)
theorem Own.nil_ (w : World) (B : Nat) : Own w B (.slice none 0 0) [] := ⟨0, rfl, World.ownsRow_nil _ _ _ _⟩
theorem Own.below {w w' : World} {B : Nat} {v : Value} {X : List (List UInt8)} (h : Own w B v X) (hb : Below w.heap.size w w') : Own w' B v X := by
  obtain ⟨n, hn, ho⟩ := h; exact ⟨n, hn, own_below ho hb (Nat.le_refl _)⟩
theorem Own.far {w w' : World} {B : Nat} {v : Value} {X : List (List UInt8)} {row : Option Nat} (h : Own w B v X) (hg : w.grownBy w' row) (hne : ∀ g, v.ownBlock = some g → row ≠ some g) : Own w' B v X := by
  obtain ⟨n, hn, ho⟩ := h
  refine ⟨n, hn, ho.kept hg ?_⟩
  rcases ho.2 with ⟨rfl, _⟩ | ⟨g, cap, cur, rfl, _⟩
  · exact .inl rfl
  · exact .inr fun e => hne g (by simp [Value.ownBlock]) (by rw [← e]; simp [Value.ownBlock])
theorem Own.lt {w : World} {B : Nat} {v : Value} {X : List (List UInt8)} (h : Own w B v X) {g : Nat} (hg : v.ownBlock = some g) : B ≤ g ∧ g < w.heap.size := by
  obtain ⟨n, hn, ho⟩ := h; exact ho.lt g hg
theorem Own.rd {w : World} {B n c : Nat} {A : Option Addr} {X : List (List UInt8)} (h : Own w B (.slice A n c) X) : Rd w A (sv X) := by
  obtain ⟨n', hn, ho⟩ := h
  rcases ho.2 with ⟨e, h0⟩ | ⟨g, cap, cur, e, _⟩
  · cases e; subst h0; exact Rd.of_own ho
  · cases e; exact Rd.of_own ho
theorem Own.row {w : World} {B n c : Nat} {A : Option Addr} {X : List (List UInt8)} (h : Own w B (.slice A n c) X) : w.ownsRow B 9 1 (.slice A n c) n (sv X) := by
  obtain ⟨n', hn, ho⟩ := h
  rcases ho.2 with ⟨e, h0⟩ | ⟨g, cap, cur, e, _⟩
  · cases e; subst h0; exact ho
  · cases e; exact ho
theorem Own.len {w : World} {B n c : Nat} {A : Option Addr} {X : List (List UInt8)} (h : Own w B (.slice A n c) X) : n = X.length := by
  obtain ⟨n', hn, ho⟩ := h
  rcases ho.2 with ⟨e, h0⟩ | ⟨g, cap, cur, e, _⟩
  · cases e; omega
  · cases e; exact hn
theorem own_blk_of {w : World} {B n c : Nat} {A : Option Addr} {X : List (List UInt8)} (h : Own w B (.slice A n c) X) {p : Addr} (hp : A = some p) : (Value.slice A n c).ownBlock = some p.block := by subst hp; rfl
structure R3 (w : World) (B : Nat) (a b c : Value) (X Y Z : List (List UInt8)) : Prop where
  oa : Own w B a X
  ob : Own w B b Y
  oc : Own w B c Z
  ab : Sep a b
  ac : Sep a c
  bc : Sep b c
section
variable {w w' : World} {B : Nat} {a b c : Value} {X Y Z : List (List UInt8)}
theorem R3.start (w : World) (B : Nat) : R3 w B (.slice none 0 0) (.slice none 0 0) (.slice none 0 0) [] [] [] := ⟨Own.nil_ _ _, Own.nil_ _ _, Own.nil_ _ _, Sep.nil_ _, Sep.nil_ _, Sep.nil_ _⟩
theorem R3.below (h : R3 w B a b c X Y Z) (hb : Below w.heap.size w w') : R3 w' B a b c X Y Z := ⟨h.oa.below hb, h.ob.below hb, h.oc.below hb, h.ab, h.ac, h.bc⟩
theorem R3.alloc (h : R3 w B a b c X Y Z) (o : Obj) : R3 (w.alloc o) B a b c X Y Z := h.below ((Below.refl _ _).alloc (Nat.le_refl _) o)
theorem R3.swap (h : R3 w B a b c X Y Z) : R3 w B b a c Y X Z := ⟨h.ob, h.oa, h.oc, h.ab.symm, h.bc, h.ac⟩
theorem R3.turn (h : R3 w B a b c X Y Z) : R3 w B c b a Z Y X := ⟨h.oc, h.ob, h.oa, h.bc.symm, h.ac.symm, h.ab.symm⟩
theorem R3.third (h : R3 w B a b c X Y Z) : R3 w B a b (.slice none 0 0) X Y [] := ⟨h.oa, h.ob, Own.nil_ _ _, h.ab, Sep.nil_ _, Sep.nil_ _⟩
theorem R3.skip (h : R3 w B a b c X Y Z) : R3 w B a c (.slice none 0 0) X Z [] := ⟨h.oa, h.oc, Own.nil_ _ _, h.ac, Sep.nil_ _, Sep.nil_ _⟩
theorem R3.grow (h : R3 w B a b c X Y Z) {a' : Value} {X' : List (List UInt8)} (ho : Own w' B a' X') (hg : w.grownBy w' a.ownBlock) (hl : ∀ g, a'.ownBlock = some g → a.ownBlock = some g ∨ w.heap.size ≤ g) : R3 w' B a' b c X' Y Z := by
  refine ⟨ho, h.ob.far hg fun g hb ha => h.ab g ha hb, h.oc.far hg fun g hc ha => h.ac g ha hc, fun g ha hb => ?_, fun g ha hc => ?_, h.bc⟩
  · rcases hl g ha with h1 | h1
    · exact h.ab g h1 hb
    · have := (h.ob.lt hb).2; omega
  · rcases hl g ha with h1 | h1
    · exact h.ac g h1 hc
    · have := (h.oc.lt hc).2; omega
end
/-- append of the elements of a slice that reads as a list; and where the new slice lies -/
theorem wpList_appL {P : Program} {ops : Array Oper} {rest : List Oper} {o : Oper} {a : Act} {Q : Exit → Act → World → Prop} {w : World} (hgd : o.guard = none) (s x : Operand) (t : TypeId)
    (ho : o.op = .call { callee := .builtin .append, args := #[s, x], argTypes := #[t, t] }) {e : TypeId} {z : Value} {bytes : Nat}
    (ht : P.underlying t = some (.slice e)) (hinfo : (P.info? e).map (fun i => (i.zero, i.size, i.bytes)) = some (some z, 1, bytes)) (hzs : z.cells.size = 1)
    (base : Nat) (v : Value) (n : Nat) (xs : List Value) (A : Option Addr) (m c : Nat) (news : List Value) (h1 : ∀ u ∈ news, u.oneCell' = true)
    (hs : a.eval s = v) (hx : a.eval x = .slice A m c) (hown : w.ownsRow base e 1 v n xs) (hr : Rd w A news) (hm : news.length = m) (hm0 : 0 < m) (hb : base ≤ w.heap.size)
    (hbytes : (n + m) * bytes ≤ 140737488355328) (hmax : n + m ≤ 9223372036854775807)
    (h : ∀ g c' w', w'.ownsRow base e 1 (.slice (some ⟨g, 0, none⟩) (n + m) c') (n + m) (xs ++ news) → w.grownBy w' v.ownBlock → (v.ownBlock = some g ∨ w.heap.size ≤ g) → Below base w w' → wpList P ops Q rest (a.put o.dst (.slice (some ⟨g, 0, none⟩) (n + m) c')) w') :
    wpList P ops Q (o :: rest) a w := by
  obtain ⟨i, hi, hz, hsi, hby⟩ := info_parts hinfo
  obtain ⟨b, off, rfl, hbl, hc⟩ := hr (by omega)
  refine wpList_append_lies w hgd s x t ho base e i z 1 bytes ht hi hz hsi hby hzs (by omega) v n xs hs hown ⟨b, off, none⟩ m c news hx (by omega) ?_ h1 hm0 (by simpa [maxLen] using hmax) hbytes hb w.heap.size rfl ?_
  · intro j u hu
    rw [Addr.add_lit]
    exact hc j u hu
  · intro g c' w' hown' hg hl _
    exact h g c' w' hown' hg (hl.imp id fun e => Nat.le_of_eq e.symm) (grown_below hg (fun k hk => (hown.lt k hk).1) hb)
theorem step_app1L {P : Program} {ops : Array Oper} {o : Oper} {a : Act} {K : Act → World → Prop} {Q : Exit → Act → World → Prop} {E : Prop} (hgd : o.guard = none) (s x : Operand) (t : TypeId)
    (ho : o.op = .call { callee := .builtin .append, args := #[s, x], argTypes := #[t, t] }) {e : TypeId} {z : Value} {bytes : Nat}
    (ht : P.underlying t = some (.slice e)) (hinfo : (P.info? e).map (fun i => (i.zero, i.size, i.bytes)) = some (some z, 1, bytes)) (hzs : z.cells.size = 1)
    (base : Nat) (v : Value) (n : Nat) (xs : List Value) (w0 : World) (y : Value) (h1 : y.oneCell' = true)
    (hs : a.eval s = v) {g0 : Nat} (hx : a.eval x = .slice (some ⟨g0, 0, none⟩) 1 1) (hg0 : w0.heap.size = g0) (hown : (w0.alloc (.cells #[y] e)).ownsRow base e 1 v n xs) (hb : base ≤ w0.heap.size)
    (hbytes : (n + 1) * bytes ≤ 140737488355328) (hmax : n + 1 ≤ 9223372036854775807)
    (h : ∀ g c w', w'.ownsRow base e 1 (.slice (some ⟨g, 0, none⟩) (n + 1) c) (n + 1) (xs ++ [y]) → (w0.alloc (.cells #[y] e)).grownBy w' v.ownBlock → (v.ownBlock = some g ∨ (w0.alloc (.cells #[y] e)).heap.size ≤ g) → Below base w0 w' → K (a.put o.dst (.slice (some ⟨g, 0, none⟩) (n + 1) c)) w') :
    if Region.wanted o (yielded ops a.tmps) = true then Oper.wp P o a (w0.alloc (.cells #[y] e)) K Q else E := by
  subst hg0
  obtain ⟨i, hi, hz, hsi, hby⟩ := info_parts hinfo
  refine step_append_lies (w0.alloc (.cells #[y] e)) hgd s x t ho base e i z 1 bytes ht hi hz hsi hby hzs (by omega) v n xs hs hown ⟨w0.heap.size, 0, none⟩ 1 1 [y] hx rfl
    (World.news_of_block (cs := #[y]) (t := e) (fr := (0, 0)) (heap_alloc_new w0 _)) (by intro u hu; rw [List.mem_singleton.1 hu]; exact h1) (by decide) (by simpa [maxLen] using hmax) hbytes (by simp; omega) _ rfl ?_
  intro g c w' hown' hg hl _
  exact h g c w' hown' hg (hl.imp id fun e => Nat.le_of_eq e.symm) (((Below.refl base w0).alloc hb _).trans (grown_below hg (fun k hk => (hown.lt k hk).1) (by simp; omega)))
theorem sv_cells (X : List (List UInt8)) : ∀ u ∈ sv X, u.oneCell' = true := str_one (mkL X)
theorem lies_slice {v : Value} {g n c : Nat} {H : Nat} (h : v.ownBlock = some g ∨ H ≤ g) : ∀ g', (Value.slice (some ⟨g, 0, none⟩) n c).ownBlock = some g' → v.ownBlock = some g' ∨ H ≤ g' := by
  intro g' e
  have : g = g' := by simpa [Value.ownBlock] using e
  subst this; exact h
theorem lies_slice1 {v : Value} {g n c : Nat} {w0 : World} {o : Obj} (h : v.ownBlock = some g ∨ w0.heap.size + 1 ≤ g) : ∀ g', (Value.slice (some ⟨g, 0, none⟩) n c).ownBlock = some g' → v.ownBlock = some g' ∨ (w0.alloc o).heap.size ≤ g' := lies_slice (by rw [World.size_alloc]; exact h)
/-! plain: lengths and steps -/
theorem flat_len {α : Type} (f : Nat → List α) (c : Nat) (h : ∀ i, (f i).length = c) : ∀ n, ((List.range n).flatMap f).length = n * c
  | 0 => by simp
  | n + 1 => by rw [List.range_succ, List.flatMap_append, List.length_append, flat_len f c h n]; simp [h, Nat.succ_mul]
theorem flat_succ {α : Type} (f : Nat → List α) (n : Nat) : (List.range (n + 1)).flatMap f = (List.range n).flatMap f ++ f n := by
  rw [List.range_succ, List.flatMap_append]; simp
def leafF (s : List UInt8) (n i k : Nat) : List (List UInt8) := Sl.startT s i k :: Sl.chained n (Sl.start s i k)
theorem leafF_len (s : List UInt8) (n i k : Nat) : (leafF s n i k).length = n + 2 := by unfold leafF; rw [List.length_cons, chained_len]
theorem madeLeaf_eq (s : List UInt8) (n i : Nat) : Sl.madeLeaf s n i = (List.range 18).flatMap (leafF s n i) ++ [Sl.keyT s i] := rfl
theorem madeLeaf_len (s : List UInt8) (n i : Nat) : (Sl.madeLeaf s n i).length = 18 * (n + 2) + 1 := by
  rw [madeLeaf_eq, List.length_append, flat_len _ _ (leafF_len s n i)]; rfl
theorem texts_len (L : List (List UInt8)) : (Sl.texts L).length = L.length / 2 := by rw [← Sl.up_len, Sl.up_texts, List.length_map]
theorem madeTree_len : ∀ (h : Nat) (L : List (List UInt8)), (Sl.madeTree h L).length ≤ L.length
  | 0, _ => Nat.zero_le _
  | h + 1, L => by
    rw [Sl.madeTree, List.length_append, texts_len]
    have := madeTree_len h (Sl.up L)
    rw [Sl.up_len] at this
    omega
theorem made_len {s : List UInt8} {h n : Nat} (hh : h ≤ 8) (hn : n ≤ 30) : (Sl.Made s h n).length ≤ 150000 := by
  unfold Sl.Made
  rw [List.length_append, flat_len _ _ (madeLeaf_len s n)]
  have h1 := madeTree_len h (Sl.keysF s h)
  rw [Sl.keysF_len] at h1
  have h2 := pow_le8 hh
  have h3 : 2 ^ h * (18 * (n + 2) + 1) ≤ 256 * 577 := Nat.mul_le_mul h2 (by omega)
  omega
theorem texts_at : ∀ (l : List (List UInt8)) (j : Nat), 2 * j + 1 < l.length → (Sl.texts l).getD j [] = Sl.nodeT (l.getD (2 * j) []) (l.getD (2 * j + 1) [])
  | [], j, h => by simp at h
  | [_], j, h => by simp at h
  | a :: b :: r, 0, _ => by simp [Sl.texts]
  | a :: b :: r, j + 1, h => by
    have := texts_at r j (by simp at h; omega)
    rw [show 2 * (j + 1) = (2 * j) + 1 + 1 by omega, Sl.texts]
    simpa using this
theorem texts_step {L : List (List UInt8)} {j : Nat} (h : 2 * j + 1 < L.length) : (Sl.texts L).take (j + 1) = (Sl.texts L).take j ++ [Sl.nodeT (L.getD (2 * j) []) (L.getD (2 * j + 1) [])] := by
  have hj : j < (Sl.texts L).length := by rw [texts_len]; omega
  rw [List.take_succ_eq_append_getElem hj, ← texts_at L j h, List.getD_eq_getElem?_getD, List.getElem?_eq_getElem hj]; rfl
theorem up_step' {L : List (List UInt8)} {j : Nat} (h : 2 * j + 1 < L.length) : (Sl.up L).take (j + 1) = (Sl.up L).take j ++ [Dg.sumL (Sl.nodeT (L.getD (2 * j) []) (L.getD (2 * j + 1) []))] := by
  rw [Sl.up_texts, ← List.map_take, texts_step h, List.map_append, List.map_take]; rfl
theorem ends_step' {s : List UInt8} {i k : Nat} (hk : k < 18) : (Sl.endsF s i).take (k + 1) = (Sl.endsF s i).take k ++ [Sl.chainF 15 (Sl.start s i k)] := by
  rw [List.take_succ_eq_append_getElem (by rw [Sl.endsF_len]; exact hk)]
  congr 2
  simp [Sl.endsF]
theorem keys_step' {s : List UInt8} {h k : Nat} (hk : k < 2 ^ h) : (Sl.keysF s h).take (k + 1) = (Sl.keysF s h).take k ++ [Sl.key s k] := by
  rw [List.take_succ_eq_append_getElem (by rw [Sl.keysF_len]; exact hk)]
  congr 2
  simp [Sl.keysF]
theorem joinT_len {L : List (List UInt8)} (hl : L.length ≤ 30) (hs : ∀ t ∈ L, t.length ≤ 300) : (Dg.joined L).length ≤ 1000000 := by
  have := joined_size (l := mkL L) (fun s hs' => by
    obtain ⟨t, ht', rfl⟩ := List.mem_map.1 hs'
    rw [mkB_size]; exact hs t ht') (mkL L).length (Nat.le_refl _)
  rw [List.take_length, bys_mkL, mkL_len] at this
  omega
theorem chained_at {n j : Nat} {t : List UInt8} (h : j ≤ n) : (sv (Sl.chained n t))[j]? = some (.string (mkB (Sl.chainF j t))) := by
  rw [sv_at (by rw [chained_len]; omega)]
  simp [Sl.chained]
theorem rstartJ_core (s : ByteArray) (i k : Nat) (u : World) (hs : s.size ≤ 300) (hi : i < 10000) (hk : k < 10000) :
    Calls Tryd.prog 47 #[.slice (some ⟨u.heap.size, 0, none⟩) 3 3] (u.alloc (.cells #[.string s, .string ⟨(Dg.dec i).toArray⟩, .string ⟨(Dg.dec k).toArray⟩] 9)) fun e w' => e = .returned (.string (mkB (Sl.startT s.data.toList i k))) ∧ Below u.heap.size u w' := by
  have hb3 : Below u.heap.size u (u.alloc (.cells #[.string s, .string ⟨(Dg.dec i).toArray⟩, .string ⟨(Dg.dec k).toArray⟩] 9)) := (Below.refl _ _).alloc (Nat.le_refl _) _
  refine (rjoinT_any _ 3 3 [s.data.toList, Dg.dec i, Dg.dec k] _ rfl (by show 3 ≤ 30; decide) (three_300 (by rw [← Lib.size_eq]; exact hs) (dec_len4 hi) (dec_len4 hk)) (by rw [start_list]; exact Rd.of_row (heap_alloc_new u _) (List.prefix_refl _))).mono ?_
  rintro e w3 ⟨rfl, h3⟩
  exact ⟨rfl, hb3.trans (h3.mono hb3.size)⟩
theorem startT_len {s : List UInt8} {i k : Nat} (hs : s.length ≤ 300) (hi : i < 10000) (hk : k < 10000) : (Sl.startT s i k).length ≤ 1000000 := joinT_len (by show 3 ≤ 30; decide) (three_300 hs (dec_len4 hi) (dec_len4 hk))
theorem but_grown {X : Nat → Prop} {a b c : World} {row : Option Nat} (h : But X a b) (hg : b.grownBy c row) (hX : ∀ g, row = some g → X g) : But X a c :=
  h.trans ⟨hg.os, hg.tape, hg.output, hg.size, fun k hk hx => hg.block k hk (fun e => hx (hX k e.symm))⟩
end Go.Proofs.YthceonkdmcidcaaDoor
