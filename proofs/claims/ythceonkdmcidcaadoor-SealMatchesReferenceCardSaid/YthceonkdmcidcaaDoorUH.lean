/- WORDS for the laws of seals: an append of a list at a step of a region; the sizes of what was digested. -/
import Derived.Test.YthceonkdmcidcaaDoorUF
import Derived.Test.YthceonkdmcidcaaDoorUG
import Derived.BigFrame
set_option linter.unusedSimpArgs false
set_option linter.unusedVariables false
namespace Go.Proofs.YthceonkdmcidcaaDoor
open Go.RowKit

theorem step_appL {P : Program} {ops : Array Oper} {o : Oper} {a : Act} {K : Act → World → Prop} {Q : Exit → Act → World → Prop} {E : Prop} {w : World} (hwant : Region.wanted o (yielded ops a.tmps) = true) (s x : Operand) (t : TypeId)
    (ho : o.op = .call { callee := .builtin .append, args := #[s, x], argTypes := #[t, t] }) {e : TypeId} {z : Value} {bytes : Nat}
    (ht : P.underlying t = some (.slice e)) (hinfo : (P.info? e).map (fun i => (i.zero, i.size, i.bytes)) = some (some z, 1, bytes)) (hzs : z.cells.size = 1)
    (base : Nat) (v : Value) (n : Nat) (xs : List Value) (A : Option Addr) (m c : Nat) (news : List Value) (h1 : ∀ u ∈ news, u.oneCell' = true)
    (hs : a.eval s = v) (hx : a.eval x = .slice A m c) (hown : w.ownsRow base e 1 v n xs) (hr : Rd w A news) (hm : news.length = m) (hm0 : 0 < m) (hb : base ≤ w.heap.size)
    (hbytes : (n + m) * bytes ≤ 140737488355328) (hmax : n + m ≤ 9223372036854775807)
    (h : ∀ g c' w', w'.ownsRow base e 1 (.slice (some ⟨g, 0, none⟩) (n + m) c') (n + m) (xs ++ news) → w.grownBy w' v.ownBlock → (v.ownBlock = some g ∨ w.heap.size ≤ g) → Below base w w' → K (a.put o.dst (.slice (some ⟨g, 0, none⟩) (n + m) c')) w') :
    if Region.wanted o (yielded ops a.tmps) = true then Oper.wp P o a w K Q else E := by
  obtain ⟨i, hi, hz, hsi, hby⟩ := info_parts hinfo
  obtain ⟨b, off, rfl, hbl, hc⟩ := hr (by omega)
  rw [if_pos hwant]
  refine wp_append_lies w s x t ho base e i z 1 bytes ht hi hz hsi hby hzs (by omega) v n xs hs hown ⟨b, off, none⟩ m c news hx (by omega) ?_ h1 hm0 (by simpa [maxLen] using hmax) hbytes hb w.heap.size rfl ?_
  · intro j u hu
    rw [Addr.add_lit]
    exact hc j u hu
  · intro g c' w' hown' hg hl _
    exact h g c' w' hown' hg (hl.imp id fun e => Nat.le_of_eq e.symm) (grown_below hg (fun k hk => (hown.lt k hk).1) hb)
/-- the same at a plain region's list, guarded or not -/
theorem wpList_appLg {P : Program} {ops : Array Oper} {rest : List Oper} {o : Oper} {a : Act} {Q : Exit → Act → World → Prop} {w : World} (hwant : Region.wanted o (yielded ops a.tmps) = true) (s x : Operand) (t : TypeId)
    (ho : o.op = .call { callee := .builtin .append, args := #[s, x], argTypes := #[t, t] }) {e : TypeId} {z : Value} {bytes : Nat}
    (ht : P.underlying t = some (.slice e)) (hinfo : (P.info? e).map (fun i => (i.zero, i.size, i.bytes)) = some (some z, 1, bytes)) (hzs : z.cells.size = 1)
    (base : Nat) (v : Value) (n : Nat) (xs : List Value) (A : Option Addr) (m c : Nat) (news : List Value) (h1 : ∀ u ∈ news, u.oneCell' = true)
    (hs : a.eval s = v) (hx : a.eval x = .slice A m c) (hown : w.ownsRow base e 1 v n xs) (hr : Rd w A news) (hm : news.length = m) (hm0 : 0 < m) (hb : base ≤ w.heap.size)
    (hbytes : (n + m) * bytes ≤ 140737488355328) (hmax : n + m ≤ 9223372036854775807)
    (h : ∀ g c' w', w'.ownsRow base e 1 (.slice (some ⟨g, 0, none⟩) (n + m) c') (n + m) (xs ++ news) → w.grownBy w' v.ownBlock → (v.ownBlock = some g ∨ w.heap.size ≤ g) → Below base w w' → wpList P ops Q rest (a.put o.dst (.slice (some ⟨g, 0, none⟩) (n + m) c')) w') :
    wpList P ops Q (o :: rest) a w := by
  obtain ⟨i, hi, hz, hsi, hby⟩ := info_parts hinfo
  obtain ⟨b, off, rfl, hbl, hc⟩ := hr (by omega)
  refine BigFrame.wpList_want hwant fun K hK => ?_
  refine wp_append_lies w s x t ho base e i z 1 bytes ht hi hz hsi hby hzs (by omega) v n xs hs hown ⟨b, off, none⟩ m c news hx (by omega) ?_ h1 hm0 (by simpa [maxLen] using hmax) hbytes hb w.heap.size rfl ?_
  · intro j u hu
    rw [Addr.add_lit]
    exact hc j u hu
  · intro g c' w' hown' hg hl _
    exact hK _ _ (h g c' w' hown' hg (hl.imp id fun e => Nat.le_of_eq e.symm) (grown_below hg (fun k hk => (hown.lt k hk).1) hb))
/-- append of all elements of a slice that reads as a list, nil and empty ones let in, at a step of a region; and where the new slice lies -/
theorem step_appR {P : Program} {ops : Array Oper} {o : Oper} {a : Act} {K : Act → World → Prop} {Q : Exit → Act → World → Prop} {E : Prop} {w : World} (hwant : Region.wanted o (yielded ops a.tmps) = true) (s x : Operand) (t : TypeId)
    (ho : o.op = .call { callee := .builtin .append, args := #[s, x], argTypes := #[t, t] }) {e : TypeId} {z : Value} {bytes : Nat}
    (ht : P.underlying t = some (.slice e)) (hinfo : (P.info? e).map (fun i => (i.zero, i.size, i.bytes)) = some (some z, 1, bytes)) (hzs : z.cells.size = 1)
    (base : Nat) (v : Value) (n : Nat) (xs : List Value) (A : Option Addr) (m c : Nat) (news : List Value) (h1 : ∀ u ∈ news, u.oneCell' = true)
    (hs : a.eval s = v) (hx : a.eval x = .slice A m c) (hown : w.ownsRow base e 1 v n xs) (hr : Rd w A news) (hm : news.length = m) (hb : base ≤ w.heap.size)
    (hbytes : (n + m) * bytes ≤ 140737488355328) (hmax : n + m ≤ 9223372036854775807)
    (h : ∀ A' c' w', w'.ownsRow base e 1 (.slice A' (n + m) c') (n + m) (xs ++ news) → w.grownBy w' v.ownBlock → (∀ g, (Value.slice A' (n + m) c').ownBlock = some g → v.ownBlock = some g ∨ w.heap.size ≤ g) → Below base w w' → K (a.put o.dst (.slice A' (n + m) c')) w') :
    if Region.wanted o (yielded ops a.tmps) = true then Oper.wp P o a w K Q else E := by
  obtain ⟨i, hi, hz, hsi, hby⟩ := info_parts hinfo
  rw [if_pos hwant]
  have fin : ∀ v' w', (Builtin.append_ #[t, t] o.type #[v, .slice A m c]).run P w = .ok v' w' → w'.ownsRow base e 1 v' (n + m) (xs ++ news) → w.grownBy w' v.ownBlock → (v'.ownBlock = v.ownBlock ∨ v'.ownBlock = some w.heap.size) → Oper.wp P o a w K Q := by
    intro v' w' hrun ho' hg hl
    obtain ⟨A', c', rfl, -, -⟩ := own_form ho'
    have hK := h A' c' w' ho' hg (fun g hg' => hl.imp (fun e => by rw [← e]; exact hg') (fun e => by rw [hg'] at e; cases e; exact Nat.le_refl _)) (grown_below hg (fun k hk => (hown.lt k hk).1) hb)
    unfold Oper.wp execOp
    simp only [ho, resolve, invoke, builtin, Sem.run_bind, Sem.run_pure, Result.andThen_ok, List.map_toArray, List.map_cons, List.map_nil, hs, hx, hrun]
    exact hK
  cases A with
  | none =>
    have h0 : m = 0 := by
      rcases Nat.eq_zero_or_pos m with h0 | h0
      · exact h0
      · obtain ⟨b, off, e, _⟩ := hr (by omega); cases e
    have hn0 : news = [] := List.eq_nil_of_length_eq_zero (by omega)
    subst h0 hn0
    refine fin v w ?_ (by simpa using hown) (World.grownBy.refl _ _) (.inl rfl)
    exact run_append_none_ w ht hi hown c
  | some ad =>
    obtain ⟨v', w', hr', h2, h3, _, h5⟩ := run_append_own_at (P := P) w base t o.type e i z 1 bytes ht hi hz hsi hby hzs (by omega) v n xs hown ad m c news (by omega) (by
      intro j u hu
      have hj := (List.getElem?_eq_some_iff.1 hu).1
      obtain ⟨b, off, e, _, hc⟩ := hr (by omega)
      cases e
      rw [Addr.add_lit]
      exact hc j u hu) h1 (by simpa [maxLen] using hmax) hbytes hb
    exact fin v' w' hr' h2 h3 h5
/-- an empty slice that is not nil -/
theorem R3.fresh {w : World} {B : Nat} {b c : Value} {Y Z : List (List UInt8)} (h : R3 w B (.slice none 0 0) b c [] Y Z) (hB : B ≤ w.heap.size) : R3 (w.alloc (.cells #[] 9)) B (.slice (some ⟨w.heap.size, 0, none⟩) 0 0) b c [] Y Z :=
  R3.grow h ⟨0, rfl, rfl, .inr ⟨w.heap.size, 0, #[], rfl, hB, heap_alloc_new w _, Nat.le_refl _, by decide, rfl, rfl⟩⟩ (grown_of_below ((Below.refl _ _).alloc (Nat.le_refl _) _)) (fun g e => .inr (by simp [Value.ownBlock] at e; omega))
theorem Own.set_ {w : World} {B Bo : Nat} {v : Value} {X : List (List UInt8)} {t : TypeId} {cs : Array Value} (h : Own w B v X) (hB : w.heap[Bo]? = some (.cells cs t (0, 0))) (hte : (9 : TypeId) ≠ t) (i : Nat) (u : Value) : Own (w.setCell ⟨Bo, i, none⟩ u) B v X := by
  obtain ⟨n, hn, ho⟩ := h
  exact ⟨n, hn, own_set hB hte ho i u⟩
theorem R3.set_ {w : World} {B Bo : Nat} {a b c : Value} {X Y Z : List (List UInt8)} {t : TypeId} {cs : Array Value} (h : R3 w B a b c X Y Z) (hB : w.heap[Bo]? = some (.cells cs t (0, 0))) (hte : (9 : TypeId) ≠ t) (i : Nat) (u : Value) : R3 (w.setCell ⟨Bo, i, none⟩ u) B a b c X Y Z :=
  ⟨h.oa.set_ hB hte i u, h.ob.set_ hB hte i u, h.oc.set_ hB hte i u, h.ab, h.ac, h.bc⟩
theorem Own.blk {w : World} {B g n c : Nat} {X : List (List UInt8)} (h : Own w B (.slice (some ⟨g, 0, none⟩) n c) X) : ∃ cur : Array Value, B ≤ g ∧ w.heap[g]? = some (.cells cur 9 (0, 0)) ∧ cur.toList.take X.length = sv X := by
  have hn := h.len
  rcases h.row.2 with ⟨e, h0⟩ | ⟨g', cap, cur, e, hb, hg, _, _, _, ht⟩
  · cases e
  · cases e
    exact ⟨cur, hb, hg, by rw [← hn]; simpa using ht⟩
theorem sv_set (X : List (List UInt8)) (k : Nat) (y : List UInt8) : sv (X.set k y) = (sv X).set k (.string (mkB y)) := by simp [sv, mkL, List.map_set]
/-- one element of an own list is put -/
theorem own_put {w : World} {B g n c k : Nat} {X : List (List UInt8)} {y : List UInt8} (h : Own w B (.slice (some ⟨g, 0, none⟩) n c) X) : Rd (w.setCell ⟨g, k, none⟩ (.string (mkB y))) (some ⟨g, 0, none⟩) (sv (X.set k y)) := by
  obtain ⟨cur, _, hg, ht⟩ := h.blk
  refine Rd.of_row (row_put hg _) ?_
  refine ⟨(cur.toList.set k (.string (mkB y))).drop X.length, ?_⟩
  rw [sv_set, ← ht, ← List.take_set, Array.toList_setIfInBounds, List.take_append_drop]
theorem own_some {w : World} {B n c : Nat} {A : Option Addr} {X : List (List UInt8)} (h : Own w B (.slice A n c) X) (hn : 0 < n) : ∃ g, A = some ⟨g, 0, none⟩ ∧ B ≤ g ∧ g < w.heap.size := by
  obtain ⟨g, cap, e, h1, h2⟩ := h.row.form hn
  cases e
  exact ⟨g, rfl, h1, h2⟩
theorem rd_setFar {w : World} {A : Option Addr} {xs : List Value} (h : Rd w A xs) {g i : Nat} (hne : ∀ p, A = some p → p.block ≠ g) (u : Value) : Rd (w.setCell ⟨g, i, none⟩ u) A xs := by
  intro hp
  obtain ⟨b, off, eA, hb, hc⟩ := h hp
  refine ⟨b, off, eA, Nat.lt_of_lt_of_le hb (KeepsWalks.setCell w ⟨g, i, none⟩ u).size, fun j v hv => ?_⟩
  exact (cell_same (p := ⟨b, off + j, none⟩) (Below.heap_setCell _ _ _ _ (hne _ eA))).trans (hc j v hv)
theorem own_type {w : World} {B n c : Nat} {A : Option Addr} {X : List (List UInt8)} {t : TypeId} {cs : Array Value} (h : Own w B (.slice A n c) X) {p : Addr} (hp : A = some p) (hB : w.heap[p.block]? = some (.cells cs t (0, 0))) (hte : (9 : TypeId) ≠ t) : False := by
  subst hp
  rcases h.row.2 with ⟨e, _⟩ | ⟨g, cap, cur, e, _, hg, _⟩
  · cases e
  · cases e
    rw [hg] at hB
    cases hB
    exact hte rfl
/-- the seal that was changed -/
structure BadS (w5 wy : World) (e5 i h : Nat) (SG : List (List UInt8)) (jj cc cd : Nat) (Ac Ad : Option Addr) (S' P' : List (List UInt8)) : Prop where
  blk : wy.heap[e5]? = some (.cells #[.int .i64 (jj : Int), .slice Ac 18 cc, .slice Ad h cd] 24 (0, 0))
  r1 : Rd wy Ac (sv S')
  r2 : Rd wy Ad (sv P')
  l1 : S'.length = 18
  l2 : P'.length = h
  z1 : ∀ t ∈ S', t.length ≤ 300
  z2 : ∀ t ∈ P', t.length ≤ 300
  same : i = jj ∨ S' = SG
  bel : Below w5.heap.size w5 wy
theorem set_300 {X : List (List UInt8)} {k : Nat} {y : List UInt8} (h : ∀ t ∈ X, t.length ≤ 300) (hy : y.length ≤ 300) : ∀ t ∈ X.set k y, t.length ≤ 300 := fun t ht => (List.mem_or_eq_of_mem_set ht).elim (h t) (fun e => by rw [e]; exact hy)
/-! plain: sizes -/
theorem node_1e6 {a b : List UInt8} (ha : a.length ≤ 300) (hb : b.length ≤ 300) : (Sl.nodeT a b).length ≤ 1000000 := joinT_len (by show 3 ≤ 30; decide) (three_300 (by decide) ha hb)
theorem le_1e6 {t : List UInt8} (h : t.length ≤ 300) : t.length ≤ 1000000 := Nat.le_trans h (by decide)
theorem texts_1e6 : ∀ {L : List (List UInt8)}, (∀ t ∈ L, t.length ≤ 300) → ∀ t ∈ Sl.texts L, t.length ≤ 1000000
  | [], _, t, ht => by cases ht
  | [_], _, t, ht => by cases ht
  | a :: b :: r, h, t, ht => by
    rw [Sl.texts] at ht
    rcases List.mem_cons.1 ht with e | e
    · rw [e]; exact node_1e6 (h a (by simp)) (h b (by simp))
    · exact texts_1e6 (L := r) (fun x hx => h x (by simp [hx])) t e
theorem madeTree_1e6 : ∀ (k : Nat) {L : List (List UInt8)}, (∀ t ∈ L, t.length ≤ 300) → ∀ t ∈ Sl.madeTree k L, t.length ≤ 1000000
  | 0, _, _, t, ht => by cases ht
  | k + 1, L, h, t, ht => by
    rw [Sl.madeTree] at ht
    rcases List.mem_append.1 ht with e | e
    · exact texts_1e6 h t e
    · exact madeTree_1e6 k up_size t e
theorem chained_1e6 {n : Nat} {x : List UInt8} (hx : x.length ≤ 300) : ∀ t ∈ Sl.chained n x, t.length ≤ 1000000 := by
  intro t ht
  obtain ⟨j, _, rfl⟩ := List.mem_map.1 ht
  exact le_1e6 (chain_300 hx)
theorem made_1e6 {s : List UInt8} {h n : Nat} (hs : s.length ≤ 300) (hh : h ≤ 8) : ∀ t ∈ Sl.Made s h n, t.length ≤ 1000000 := by
  intro t ht
  unfold Sl.Made at ht
  rcases List.mem_append.1 ht with e | e
  · obtain ⟨i, hi, e⟩ := List.mem_flatMap.1 e
    have hi2 := List.mem_range.1 hi
    have h8 := pow_le8 hh
    rw [madeLeaf_eq] at e
    rcases List.mem_append.1 e with e | e
    · obtain ⟨k, hk, e⟩ := List.mem_flatMap.1 e
      have hk2 := List.mem_range.1 hk
      unfold leafF at e
      rcases List.mem_cons.1 e with e | e
      · rw [e]; exact startT_len hs (by omega) (by omega)
      · exact chained_1e6 (by rw [show (Sl.start s i k).length = 16 from isD_len (Dg.sumL_isD _)]; decide) t e
    · rw [List.mem_singleton.1 e]; exact joinT_len (by rw [Sl.endsF_len]; decide) ends_size
  · exact madeTree_1e6 h keys_size t e
theorem climbT_1e6 : ∀ (p : List (List UInt8)) (i : Nat) (a : List UInt8), (∀ t ∈ p, t.length ≤ 300) → a.length ≤ 300 → ∀ t ∈ Sl.climbT p i a, t.length ≤ 1000000
  | [], _, _, _, _, t, ht => by cases ht
  | o :: p, i, a, hp, ha, t, ht => by
    rw [Sl.climbT] at ht
    have h1 : (Sl.pairT i a o).length ≤ 1000000 := by unfold Sl.pairT; split; exact node_1e6 (hp o (by simp)) ha; exact node_1e6 ha (hp o (by simp))
    rcases List.mem_cons.1 ht with e | e
    · rw [e]; exact h1
    · exact climbT_1e6 p (i / 2) _ (fun x hx => hp x (by simp [hx])) (by rw [isD_len (Dg.sumL_isD _)]; decide) t e
theorem checked_1e6 {m : List UInt8} {i : Nat} {S p : List (List UInt8)} (h1 : ∀ t ∈ S, t.length ≤ 300) (h2 : ∀ t ∈ p, t.length ≤ 300) : ∀ t ∈ Sl.Checked m i S p, t.length ≤ 1000000 := by
  intro t ht
  rw [checked_eq] at ht
  rcases List.mem_append.1 ht with e | e
  · obtain ⟨k, hk, e⟩ := List.mem_flatMap.1 e
    exact chained_1e6 (getD_300 h1 k) t e
  · rcases List.mem_cons.1 e with e | e
    · rw [e]; exact joinT_len (by rw [Sl.vends_len]; decide) (vends_300 h1)
    · exact climbT_1e6 p i _ h2 (by rw [isD_len (Dg.sumL_isD _)]; decide) t e
theorem checked_len {m : List UInt8} {i : Nat} {S p : List (List UInt8)} (hp : p.length ≤ 1000) : 0 < (Sl.Checked m i S p).length ∧ (Sl.Checked m i S p).length ≤ 2000 := by
  rw [checked_eq, List.length_append, List.length_cons, climbT_len]
  have := ck_flat m S 18
  omega
theorem app_1e6 {a b : List (List UInt8)} (ha : ∀ t ∈ a, t.length ≤ 1000000) (hb : ∀ t ∈ b, t.length ≤ 1000000) : ∀ t ∈ a ++ b, t.length ≤ 1000000 := fun t ht => (List.mem_append.1 ht).elim (ha t) (hb t)
/-- Shown of what was digested -/
theorem shown_app {MD CK : List (List UInt8)} (h1 : MD.length ≤ 150000) (h2 : CK.length ≤ 200000) (z1 : ∀ t ∈ MD, t.length ≤ 1000000) (z2 : ∀ t ∈ CK, t.length ≤ 1000000) (hI : ¬ Sl.Inj (MD ++ CK)) :
    ∀ u A c, Rd u A (sv (MD ++ CK)) → Calls Tryd.prog 22 #[.slice A (MD.length + CK.length) c] u fun e w' => e = .returned (.bool true) ∧ Below u.heap.size u w' :=
  fun u A c hr => shown_any A _ c (MD ++ CK) u (by rw [List.length_append]) (by rw [List.length_append]; omega) (app_1e6 z1 z2) hr hI
theorem made_len0 {s : List UInt8} {h n : Nat} : 0 < (Sl.Made s h n).length := by
  unfold Sl.Made
  rw [List.length_append, flat_len _ _ (madeLeaf_len s n)]
  have := Nat.mul_pos (pow_pos2 h) (show 0 < 18 * (n + 2) + 1 by omega)
  omega
end Go.Proofs.YthceonkdmcidcaaDoor
