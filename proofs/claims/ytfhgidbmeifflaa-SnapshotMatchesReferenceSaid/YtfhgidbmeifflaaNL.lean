/- WALK: the closure of Collect; slices.IndexFunc, slices.DeleteFunc at values. -/
import Derived.Test.YtfhgidbmeifflaaNI
import Derived.Lib.SliceRun
import Derived.Lib.LazyBuf
set_option linter.unusedSimpArgs false
set_option linter.unusedVariables false
namespace Go.Proofs.Ytfhgidbmeifflaa
open Go.RowKit Go.Maps Go.ChangeMaps Go.MapKept Go.WideShapes Go.WideMaps

/-- a set of numbers as a map's function -/
def boolM (Q : Int → Bool) : Lit → Option Value
  | .int .i64 x => if Q x then some (.bool true) else none
  | _ => none
theorem key_int (x : Int) (h1 : -1 ≤ x) (h2 : x ≤ 10000000) : keyOf Try.prog 3 (.int .i64 x) = some (.int .i64 x) := Maps.keyOf_int_mk Try.underlying3 (by simp [Lit.wf, IntKind.min, IntKind.max, IntKind.signed, IntKind.bits]; omega)
theorem boolM_upd (Q : Int → Bool) (x : Int) : updM (boolM Q) (.int .i64 x) (.bool true) = boolM (fun y => Q y || decide (y = x)) := by
  funext kl
  unfold updM
  by_cases e : kl = .int .i64 x
  · subst e
    rw [if_pos (by simp [Lit.sameKey])]
    simp [boolM]
  · rw [if_neg (by rw [Maps.sameKey_ne e]; simp)]
    cases kl with
    | int q y =>
      cases q <;> try rfl
      have : y ≠ x := fun h => e (by rw [h])
      simp [boolM, this]
    | _ => rfl
theorem zBool (w : World) : (zeroValue 4).run Try.prog w = .ok (.bool false) w := by kernel_rfl
theorem boolM_get (Q : Int → Bool) (x : Int) : (boolM Q (.int .i64 x)).getD (.bool false) = .bool (Q x) := by
  simp only [boolM]
  cases Q x <;> rfl
theorem look_bool {w : World} {b n : Nat} {Q : Int → Bool} (h : MapAt w Try.prog 3 b (boolM Q) n) (x : Int) (h1 : -1 ≤ x) (h2 : x ≤ 10000000) :
    (Instr.lookup 69 (.map (some b)) (.int .i64 x) false).run Try.prog w = .ok (.bool (Q x)) w := by
  rw [h.look intK Try.underlying69 (zBool w) (key_int x h1 h2), boolM_get]
/-- what the closure holds: how far it has come, and the places that are needed -/
structure Clo (w : World) (bi b9 bn : Nat) (Q : Int → Bool) (nn : Nat) (j : Int) : Prop where
  ci : w.heap[bi]? = some (.cells #[.int .i64 j] 3 (0, 0))
  c9 : w.heap[b9]? = some (.cells #[.map (some bn)] 69 (0, 0))
  m : MapAt w Try.prog 3 bn (boolM Q) nn
theorem Clo.keep {w w' : World} {bi b9 bn nn : Nat} {Q : Int → Bool} {j : Int} (h : Clo w bi b9 bn Q nn j) (e1 : w'.heap[bi]? = w.heap[bi]?) (e2 : w'.heap[b9]? = w.heap[b9]?) (e3 : w'.heap[bn]? = w.heap[bn]?) : Clo w' bi b9 bn Q nn j :=
  ⟨e1.trans h.ci, e2.trans h.c9, h.m.same e3⟩
theorem Clo.ne {w : World} {bi b9 bn nn : Nat} {Q : Int → Bool} {j : Int} (h : Clo w bi b9 bn Q nn j) : bi ≠ b9 ∧ bi ≠ bn ∧ b9 ≠ bn := by
  obtain ⟨D, ⟨es, clock, hb, _⟩, _⟩ := h.m
  refine ⟨?_, ?_, ?_⟩
  · rintro rfl; have := h.ci.symm.trans h.c9; simp at this
  · rintro rfl; have := h.ci.symm.trans hb; simp at this
  · rintro rfl; have := h.c9.symm.trans hb; simp at this
/-- the closure has told of one more place -/
theorem Clo.tick {w w2 : World} {bi b9 bn nn : Nat} {Q : Int → Bool} {j : Int} (h : Clo w bi b9 bn Q nn j) (v : Int) (hb : Below w.heap.size (w.setCell ⟨bi, 0, none⟩ (.int .i64 v)) w2) : Clo w2 bi b9 bn Q nn v ∧ But (· = bi) w w2 := by
  obtain ⟨n1, n2, n3⟩ := h.ne
  have e9 := Below.heap_setCell w ⟨bi, 0, none⟩ (.int .i64 v) b9 n1.symm
  have en := Below.heap_setCell w ⟨bi, 0, none⟩ (.int .i64 v) bn n2.symm
  refine ⟨⟨(hb.block bi (lt_of_block h.ci)).trans ?_, ((hb.block b9 (lt_of_block h.c9)).trans e9).trans h.c9, h.m.same ((hb.block bn h.m.lt).trans en)⟩, ((But.refl _ _).set (X := (· = bi)) (p := ⟨bi, 0, none⟩) rfl _).thenB hb⟩
  simp [World.setCell, Array.getElem?_modify, h.ci]
set_option maxHeartbeats 1000000 in
theorem coll1_any (v : Sn.Val) (bi b9 bn nn : Nat) (Q : Int → Bool) (j : Int) (w : World) (h : Clo w bi b9 bn Q nn j) (h1 : -1 ≤ j) (h2 : j ≤ 1000000) :
    Calls Try.prog 33 #[vAgg v, .pointer (some ⟨bi, 0, none⟩), .pointer (some ⟨b9, 0, none⟩)] w fun e w' => e = .returned (.bool (!Q (j + 1))) ∧ Clo w' bi b9 bn Q nn (j + 1) ∧ But (· = bi) w w' := by
  unfold vAgg
  generalize v.since = a at *
  generalize mkB v.text = t at *
  generalize v.gone = g at *
  generalize v.forgot = f at *
  have c0 : w.cell? ⟨bi, 0, none⟩ = some (.int .i64 j) := cell_of_row w bi 0 _ _ _ h.ci
  have fz := free_blk h.ci 0
  have c9 : w.cell? ⟨b9, 0, none⟩ = some (.map (some bn)) := cell_of_row w b9 0 _ _ _ h.c9
  have w1 : IntKind.i64.wrap (j + 1) = j + 1 := IntWalk.i64_in _ (by omega)
  have TK := Lib.hid (h.tick (j + 1) ((Below.refl w.heap.size (w.setCell ⟨bi, 0, none⟩ (.int .i64 (j + 1)))).alloc (by simp [World.setCell]) (.cells #[.int .i64 (a : Int), .string t, .bool g, .bool f] 62)))
  have lk := look_bool TK.out.1.m (j + 1) (by omega) (by omega)
  have hz := lt_of_block h.ci
  have hz9 := lt_of_block h.c9
  have nb : ¬ b9 = bi := fun e => h.ne.1 e.symm
  have c9' : (w.setCell ⟨bi, 0, none⟩ (.int .i64 (j + 1))).cell? ⟨b9, 0, none⟩ = some (.map (some bn)) := by rw [World.cell?_setCell_other _ _ _ _ (by intro e; injection e with e1; exact nb e1.symm)]; exact c9
  clear h
  go_enter Try.func33, Try.ntmps33
  go_wp2_with fail
  go_ret
  exact ⟨rfl, TK.out.1, TK.out.2⟩
/-- where the first place lies that is not needed -/
def IdxC (Q : Int → Bool) (n : Nat) (bi b9 bn nn : Nat) (w : World) (e : Ending) (w' : World) : Prop :=
  ∃ k : Nat, k ≤ n ∧ (∀ i : Nat, i < k → Q i = true) ∧ But (· = bi) w w' ∧ ((k = n ∧ e = .returned (.int .i64 (-1))) ∨ (k < n ∧ Q k = false ∧ e = .returned (.int .i64 (k : Int)) ∧ Clo w' bi b9 bn Q nn (k : Int)))
set_option maxHeartbeats 1000000 in
set_option maxRecDepth 100000 in
theorem index_any (A : Option Addr) (n c : Nat) (l : List Sn.Val) (bi b9 bn nn : Nat) (Q : Int → Bool) (w : World) (hn : n = l.length) (hl : l.length ≤ 1000000) (h : Rd w A (rows l)) (hA : ∀ b off, A = some ⟨b, off, none⟩ → ¬ b = bi) (hC : Clo w bi b9 bn Q nn (-1)) :
    Calls Try.prog 39 #[.slice A n c, .func (.func 33) #[] #[.pointer (some ⟨bi, 0, none⟩), .pointer (some ⟨b9, 0, none⟩)]] w (IdxC Q n bi b9 bn nn w) := by
  have H := Lib.hid h
  have HA := Lib.hid hA
  have HC := Lib.hid hC
  have HN := Lib.hid hn
  rw [← hn] at hl
  clear h hA hC hn
  go_enter Try.func39, Try.ntmps39
  go_wp2_with fail
  go_loopw [8] (fun s8 wr => ∃ k : Nat, k ≤ n ∧ s8 = .int .i64 (k : Int) ∧ Hid (∀ i : Nat, i < k → Q i = true) ∧ Hid (But (· = bi) w wr) ∧ Hid (Clo wr bi b9 bn Q nn ((k : Int) - 1))) (fun i _ => n - (intOf i).toNat)
  case atStart => exact ⟨0, Nat.zero_le _, rfl, Lib.hid (fun i h => absurd h (Nat.not_lt_zero _)), Lib.hid (But.refl _ _), HC⟩
  case round =>
    clear HC
    obtain ⟨k, hk, rfl, AL, BW, CW⟩ := hrel
    by_cases hlt : k < n
    · have hkl : k < l.length := by have := HN.out; omega
      have d1 : (k : Int) < (n : Int) := by omega
      have d2 : (0 : Int) ≤ (k : Int) := by omega
      obtain ⟨b, off, rfl, hb, c0, c1, c2, c3⟩ := rows_at (H.out.but BW.out HA.out) hkl
      have CL := Lib.hid (coll1_any l[k] bi b9 bn nn Q ((k : Int) - 1) wr CW.out (by omega) (by omega))
      have e1 : (k : Int) - 1 + 1 = (k : Int) := by omega
      rw [e1] at CL
      clear e1
      unfold vAgg at CL
      generalize l[k].since = sn at *
      generalize mkB l[k].text = tx at *
      generalize l[k].gone = gn at *
      generalize l[k].forgot = fg at *
      go_wp2_with fail
      refine CL.out.mono ?_
      rintro e w2 ⟨rfl, hc2, hb2⟩
      have C2 := Lib.hid hc2
      have B2 := Lib.hid (BW.out.trans hb2)
      clear hc2 hb2
      cases hq : Q (k : Int)
      · go_wp2_with fail
        go_ret
        exact ⟨k, hk, AL.out, B2.out, .inr ⟨hlt, hq, rfl, C2.out⟩⟩
      · have AL2 : Hid (∀ i : Nat, i < k + 1 → Q i = true) := Lib.hid (fun i hi => by
          rcases Nat.lt_succ_iff_lt_or_eq.1 hi with h1 | h1
          · exact AL.out i h1
          · rw [h1]; exact hq)
        go_wp2_with fail
        exact ⟨⟨k + 1, by omega, by go_num, AL2, B2, by have := C2; rwa [show ((k + 1 : Nat) : Int) - 1 = (k : Int) by omega]⟩, by simp [intOf]; omega⟩
    · have d1 : ¬ (k : Int) < (n : Int) := by omega
      go_wp2_with fail
      go_ret
      exact ⟨k, hk, AL.out, BW.out, .inl ⟨by omega, rfl⟩⟩
theorem collFrom_snoc (p : Nat → Bool) : ∀ (i : Nat) (l : List Sn.Val) (v : Sn.Val), Sn.collFrom p i (l ++ [v]) = Sn.collFrom p i l ++ (if p (i + l.length) then [v] else [])
  | i, [], v => by
    show (if p i then v :: Sn.collFrom p (i + 1) [] else Sn.collFrom p (i + 1) []) = _
    cases h : p i <;> simp [Sn.collFrom, h]
  | i, x :: l, v => by
    have ih := collFrom_snoc p (i + 1) l v
    rw [List.cons_append, Sn.collFrom, Sn.collFrom, ih, List.length_cons, show i + 1 + l.length = i + (l.length + 1) by omega]
    split <;> simp
theorem collFrom_take (p : Nat → Bool) (l : List Sn.Val) {j : Nat} (h : j < l.length) : Sn.collFrom p 0 (l.take (j + 1)) = Sn.collFrom p 0 (l.take j) ++ (if p j then [l[j]] else []) := by
  rw [List.take_succ_eq_append_getElem h, collFrom_snoc, List.length_take, Nat.min_eq_left (by omega), Nat.zero_add]
/-- how far the values have been moved up: m is what the row has, a as many as are kept of the first j -/
structure DelI (p : Nat → Bool) (l m : List Sn.Val) (a j : Nat) : Prop where
  len : m.length = l.length
  lt : a < j
  low : m.take a = Sn.collFrom p 0 (l.take j)
  high : m.drop j = l.drop j
theorem DelI.start {p : Nat → Bool} {l : List Sn.Val} {k : Nat} (hk : k < l.length) (h : ∀ i, i < k → p i = true) (hq : p k = false) : DelI p l l k (k + 1) := by
  refine ⟨rfl, Nat.lt_succ_self k, ?_, rfl⟩
  rw [collFrom_take p l hk, hq, Sn.collFrom_all]
  · simp
  · intro i hi
    rw [Nat.zero_add]
    exact h i (by rw [List.length_take] at hi; omega)
theorem DelI.getj {p : Nat → Bool} {l m : List Sn.Val} {a j : Nat} (h : DelI p l m a j) (hj : j < l.length) : m[j]'(by rw [h.len]; exact hj) = l[j] := by
  have h1 := h.high
  rw [List.drop_eq_getElem_cons (by rw [h.len]; exact hj), List.drop_eq_getElem_cons hj] at h1
  exact (List.cons.inj h1).1
theorem DelI.dropj {p : Nat → Bool} {l m : List Sn.Val} {a j : Nat} (h : DelI p l m a j) : m.drop (j + 1) = l.drop (j + 1) := by
  have h1 := congrArg (List.drop 1) h.high
  rw [List.drop_drop, List.drop_drop] at h1
  exact h1
theorem DelI.skip {p : Nat → Bool} {l m : List Sn.Val} {a j : Nat} (h : DelI p l m a j) (hj : j < l.length) (hq : p j = false) : DelI p l m a (j + 1) :=
  ⟨h.len, Nat.lt_succ_of_lt h.lt, by rw [collFrom_take p l hj, hq, h.low]; simp, h.dropj⟩
theorem DelI.move {p : Nat → Bool} {l m : List Sn.Val} {a j : Nat} (h : DelI p l m a j) (hj : j < l.length) (hq : p j = true) : DelI p l (m.set a l[j]) (a + 1) (j + 1) := by
  have ha : a < m.length := by have := h.len; have := h.lt; omega
  refine ⟨by rw [List.length_set]; exact h.len, Nat.succ_lt_succ h.lt, ?_, ?_⟩
  · rw [collFrom_take p l hj, hq, if_pos rfl, ← h.low, List.take_succ_eq_append_getElem (by rw [List.length_set]; exact ha), List.getElem_set_self, List.take_set_of_le (Nat.le_refl _)]
  · rw [List.drop_set_of_lt (by have := h.lt; omega)]
    exact h.dropj
theorem DelI.done {p : Nat → Bool} {l m : List Sn.Val} {a : Nat} (h : DelI p l m a l.length) : m.take a = Sn.collFrom p 0 l ∧ (Sn.collFrom p 0 l).length = a := by
  have h1 := h.low
  rw [List.take_length] at h1
  refine ⟨h1, ?_⟩
  rw [← h1, List.length_take]
  have := h.lt; have := h.len; omega
theorem rows_take (m : List Sn.Val) (a : Nat) : (rows m).take (a * 4) = rows (m.take a) := by
  by_cases h : a ≤ m.length
  · have e : rows m = rows (m.take a) ++ rows (m.drop a) := by rw [← rows_app, List.take_append_drop]
    rw [e, List.take_left' (by rw [rows_len, List.length_take, Nat.min_eq_left h])]
  · rw [List.take_of_length_le (by rw [rows_len]; omega), List.take_of_length_le (by omega)]
/-- the row of what lies in front -/
theorem own_front {w : World} {base : Nat} {e : TypeId} {size n c g : Nat} {xs : List Value} (h : w.ownsRow base e size (.slice (some ⟨g, 0, none⟩) n c) n xs) (k : Nat) (hk : k ≤ n) :
    w.ownsRow base e size (.slice (some ⟨g, 0, none⟩) k c) k (xs.take (k * size)) := by
  obtain ⟨h1, h2⟩ := h
  rcases h2 with ⟨e1, _⟩ | ⟨g', cap, cur, e1, e2, e3, e4, e5, e6, e7⟩
  · cases e1
  · cases e1
    refine ⟨by rw [List.length_take, h1, Nat.min_eq_left (Nat.mul_le_mul_right _ hk)], .inr ⟨g, c, cur, rfl, e2, e3, by omega, e5, e6, ?_⟩⟩
    rw [← e7, List.take_take, Nat.min_eq_left (Nat.mul_le_mul_right _ hk)]
theorem own_behind {base : Nat} {e : TypeId} {size n c g : Nat} {xs : List Value} : ∀ (vs : List Value) (o : Nat) (w : World), w.ownsRow base e size (.slice (some ⟨g, 0, none⟩) n c) n xs → xs.length ≤ o → (w.setCells g o vs).ownsRow base e size (.slice (some ⟨g, 0, none⟩) n c) n xs
  | [], _, _, h, _ => h
  | v :: r, o, w, h, ho => by
    have := (h.stored o v).1
    rw [List.set_eq_of_length_le ho] at this
    exact own_behind r (o + 1) _ this (by omega)
theorem own_rd {w : World} {base : Nat} {e : TypeId} {size n c : Nat} {A : Option Addr} {xs : List Value} (h : w.ownsRow base e size (.slice A n c) n xs) : Rd w A xs := by
  rcases h.2 with ⟨e1, e2⟩ | ⟨g', cap, cur, hv, _, hg, _, _, _, ht⟩
  · have : xs = [] := List.eq_nil_of_length_eq_zero (by rw [h.1, e2]; simp)
    rw [this]; exact Rd.nil_ _ _
  · injection hv with hA _ _
    rw [hA]
    exact Rd.of_row hg (by rw [← ht]; exact List.take_prefix _ _)
theorem But.setCells {X : Nat → Prop} {a : World} {g : Nat} (hg : X g) : ∀ (vs : List Value) (o : Nat) (b : World), But X a b → But X a (b.setCells g o vs)
  | [], _, _, h => h
  | v :: r, o, b, h => But.setCells hg r (o + 1) _ (h.set (p := ⟨g, o, none⟩) hg v)
/-- 'clear' at values -/
theorem run_clear_vals {P : Program} (w : World) (t e ty : TypeId) (bytes : Nat) (ht : P.underlying t = some (.slice e)) (hinfo : (P.info? e).map (fun i => (i.zero, i.size, i.bytes)) = some (some (.agg #[.int .i64 0, .string .empty, .bool false, .bool false]), 4, bytes))
    (b o n c : Nat) (hn : 0 < n) (hc : ∀ j, j < n * 4 → (w.cell? ⟨b, o + j, none⟩).isSome = true) (hf : ∀ j, j < n * 4 → w.frozen? ⟨b, o + j, none⟩ = false) :
    (Builtin.clear_ #[t] ty #[.slice (some ⟨b, o, none⟩) n c]).run P w = .ok (.tuple #[]) (w.setCells b o (Builtin.zeroCells #[.int .i64 0, .string .empty, .bool false, .bool false] n).toList) := by
  obtain ⟨i, hi, hz, hs, hb⟩ := info_parts hinfo
  have hv : (zeroValue e).run P w = .ok (.agg #[.int .i64 0, .string .empty, .bool false, .bool false]) w := by simp [zeroValue, typeInfo, hi, hz]
  have hlen : (Builtin.zeroCells #[.int .i64 0, .string .empty, .bool false, .bool false] n).toList.length = n * 4 := by simp [Builtin.zeroCells]
  have hone : ∀ v ∈ (Builtin.zeroCells #[.int .i64 0, .string .empty, .bool false, .bool false] n).toList, v.oneCell' = true := by
    intro v hv'
    simp only [Builtin.zeroCells] at hv'
    obtain ⟨k, hk, rfl⟩ := List.mem_iff_getElem.1 hv'
    simp only [Array.getElem_toList, Array.getElem_ofFn]
    have : k % 4 < 4 := Nat.mod_lt _ (by omega)
    rcases (show k % 4 = 0 ∨ k % 4 = 1 ∨ k % 4 = 2 ∨ k % 4 = 3 by omega) with e | e | e | e <;> simp [e] <;> rfl
  have hst := run_storeCells_cells (P := P) b o (Builtin.zeroCells #[.int .i64 0, .string .empty, .bool false, .bool false] n).toList 0 w (by rw [hlen]; simpa using hc) (by rw [hlen]; simpa using hf) hone
  simp only [Nat.add_zero] at hst
  obtain ⟨m, rfl⟩ : ∃ m, n = m + 1 := ⟨n - 1, by omega⟩
  simp [Builtin.clear_, run_underlying ht, hv, hst, Value.cells]
end Go.Proofs.Ytfhgidbmeifflaa
