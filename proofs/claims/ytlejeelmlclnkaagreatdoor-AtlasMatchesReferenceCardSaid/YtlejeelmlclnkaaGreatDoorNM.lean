/- WORDS FOR MAPS: a map's block that reads as a function, whatever its elements are. No program is spoken of here. -/
import Derived.Test.YtlejeelmlclnkaaGreatDoorQB
import Derived.Maps.RangeWalk
import Derived.Maps.StringElems
import Derived.Maps.OwnSet
set_option linter.unusedSimpArgs false
set_option linter.unusedVariables false
namespace Go.Proofs.YtlejeelmlclnkaaGreatDoor
open Go.RowKit Go.Maps Go.ChangeMaps Go.MapKept Go.WideShapes
open Go.WideElems (Fit rd rg pl rd_key rd_val rg_of other_key elemAt)

/-- an element reads as itself -/
def hE (v : Value) : Option (DataW Value × List MemPlace) := some (.held v, [])
def unheld : DataW Value → Option Value
  | .held v => some v
  | _ => none
def lookM (D : DataW Value) (kl : Lit) : Option Value := if Maps.has D kl then unheld (D.atKey kl .nil) else none
def updM (M : Lit → Option Value) (kl : Lit) (v : Value) : Lit → Option Value := fun x => if x.sameKey kl then some v else M x
def delM (M : Lit → Option Value) (kl : Lit) : Lit → Option Value := fun x => if x.sameKey kl then none else M x
/-- block b is a map of n entries that reads as M -/
def MapAt (w : World) (P : Program) (k : TypeId) (b : Nat) (M : Lit → Option Value) (n : Nat) : Prop :=
  ∃ D : DataW Value, w.ownsMap P k hE b n D ∧ Maps.size D = n ∧ ∀ kl, lookM D kl = M kl
section
variable {w w' : World} {P : Program} {k : TypeId} {b n : Nat} {M : Lit → Option Value}
theorem own_size {D : DataW Value} {R : Value → Option (DataW Value × List MemPlace)} (h : w.ownsMap P k R b n D) : w.ownsMap P k R b (Maps.size D) D := by
  obtain ⟨es, clock, hb, F, hs, hD⟩ := h
  refine ⟨es, clock, hb, F, ?_, hD⟩
  rw [hD]
  simp [Maps.size, length_sorted]
theorem MapAt.lt (h : MapAt w P k b M n) : b < w.heap.size := by obtain ⟨D, h1, _⟩ := h; exact h1.lt
theorem MapAt.kept {row : Option Nat} (h : MapAt w P k b M n) (hg : w.grownBy w' row) (hne : some b ≠ row) : MapAt w' P k b M n := by
  obtain ⟨D, h1, h2⟩ := h; exact ⟨D, h1.kept hg hne, h2⟩
theorem MapAt.same (h : MapAt w P k b M n) (hb : w'.heap[b]? = w.heap[b]?) : MapAt w' P k b M n := by
  obtain ⟨D, ⟨es, clock, h0, h1⟩, h2⟩ := h; exact ⟨D, ⟨es, clock, hb.trans h0, h1⟩, h2⟩
theorem MapAt.made (w : World) (P : Program) (k : TypeId) : MapAt (w.alloc (.map #[] 0)) P k w.heap.size (fun _ => none) 0 :=
  ⟨.map [], World.ownsMap_made _ _ _ _, rfl, fun kl => by simp [lookM, Maps.has]⟩
/-- an element as the laws hand it on -/
theorem at_held {D : DataW Value} {R : DataW Value} {kl : Lit} (h : w.ownsMap P k hE b n D) (K : Keyed P k) {t e : TypeId} (ht : P.underlying t = some (.map k e)) {z : Value} (hz : (zeroValue e).run P w = .ok z w) {key : Value} (hkey : keyOf P k key = some kl) (c : Bool) :
    (Instr.lookup t (.map (some b)) key c).run P w = .ok (if c then .tuple #[(lookM D kl).getD z, .bool (lookM D kl).isSome] else (lookM D kl).getD z) w ∧ ((lookM D kl).isSome = Maps.has D kl) := by
  obtain ⟨es, clock, hb, F, _, rfl⟩ := h
  rcases Maps.fit_look c K ht hz hb F hkey with ⟨hrun, _, hat⟩ | ⟨e0, y, _, _, hrun, hRv, hat, _⟩
  · have hh := Maps.has_false_of_atKey hat
    have hl : lookM (.map ((es.toList.map (rg P k hE)).foldr DataW.insert [])) kl = none := by unfold lookM; rw [hh]; rfl
    rw [hl]
    refine ⟨?_, by rw [hh]; rfl⟩
    rw [hrun]; cases c <;> rfl
  · have hh := Maps.has_true_of_atKey hat
    have he : y = (.held e0.val, []) := by
      have := hRv
      unfold hE at this
      exact (Option.some.inj this).symm
    have hl : lookM (.map ((es.toList.map (rg P k hE)).foldr DataW.insert [])) kl = some e0.val := by
      unfold lookM; rw [hh, hat .nil, he]; rfl
    rw [hl]
    refine ⟨?_, by rw [hh]; rfl⟩
    rw [hrun]; cases c <;> rfl
theorem MapAt.look {kl : Lit} (h : MapAt w P k b M n) (K : Keyed P k) {t e : TypeId} (ht : P.underlying t = some (.map k e)) {z : Value} (hz : (zeroValue e).run P w = .ok z w) {key : Value} (hkey : keyOf P k key = some kl) :
    (Instr.lookup t (.map (some b)) key false).run P w = .ok ((M kl).getD z) w := by
  obtain ⟨D, h1, h2, h3⟩ := h
  have := (at_held (R := .nil) h1 K ht hz hkey false).1
  rw [h3] at this
  exact this
theorem MapAt.look_ok {kl : Lit} (h : MapAt w P k b M n) (K : Keyed P k) {t e : TypeId} (ht : P.underlying t = some (.map k e)) {z : Value} (hz : (zeroValue e).run P w = .ok z w) {key : Value} (hkey : keyOf P k key = some kl) :
    (Instr.lookup t (.map (some b)) key true).run P w = .ok (.tuple #[(M kl).getD z, .bool (M kl).isSome]) w := by
  obtain ⟨D, h1, h2, h3⟩ := h
  have := (at_held (R := .nil) h1 K ht hz hkey true).1
  rw [h3] at this
  exact this
theorem MapAt.len (h : MapAt w P k b M n) {t e : TypeId} (ht : P.underlying t = some (.map k e)) (ty : TypeId) : (Builtin.len_ #[t] ty #[.map (some b)]).run P w = .ok (.int .i64 (n : Int)) w := by
  obtain ⟨D, h1, h2, h3⟩ := h
  have := h1.len ht ty
  rwa [h2] at this
theorem lookM_put {D : DataW Value} (hD : IsMap D) {kl : Lit} (hk : WideAt.IsKeyLit kl) (v : Value) (x : Lit) : lookM (D.put kl (.held v)) x = updM (lookM D) kl v x := by
  unfold updM
  by_cases e : x = kl
  · subst e
    rw [if_pos (WideAt.sameKey_self hk)]
    unfold lookM
    rw [has_put_same hD hk, atKey_put_same hD hk]; rfl
  · rw [if_neg (by rw [Maps.sameKey_ne e]; simp)]
    unfold lookM
    rw [has_put_other e, atKey_put_other e]
theorem lookM_del {D : DataW Value} {kl : Lit} (hk : WideAt.IsKeyLit kl) (x : Lit) : lookM (D.del kl) x = delM (lookM D) kl x := by
  unfold delM
  by_cases e : x = kl
  · subst e
    rw [if_pos (WideAt.sameKey_self hk)]
    unfold lookM
    rw [has_del_same]; rfl
  · rw [if_neg (by rw [Maps.sameKey_ne e]; simp)]
    unfold lookM
    rw [has_del_other e, atKey_del_other e]
theorem has_isSome {D : DataW Value} (h : w.ownsMap P k hE b n D) (K : Keyed P k) (kl : Lit) : (lookM D kl).isSome = Maps.has D kl := by
  cases hh : Maps.has D kl with
  | false => unfold lookM; rw [hh]; rfl
  | true =>
    obtain ⟨es, clock, hb, F, _, rfl⟩ := h
    obtain ⟨p, hp, hpk⟩ := List.any_eq_true.1 (show (((es.toList.map (rg P k hE)).foldr DataW.insert []).any fun p => p.1.sameKey kl) = true from hh)
    obtain ⟨x, hx, rfl⟩ := List.mem_map.1 (mem_sorted.1 hp)
    obtain ⟨y, hy⟩ := F.reads x hx
    obtain ⟨z, hz, hzd⟩ := rd_val hy
    have hkl : (rg P k hE x).1 = kl := WideAt.sameKey_eq hpk
    have hkey := rd_key hy
    have hat := (atKey_sorted (es.toList.map (rg P k hE)) (Maps.fit_rising K F) kl (by rw [← hkl, rg_of hy]; exact K.key hkey) ).2 (rg P k hE x) (List.mem_map.2 ⟨x, hx, rfl⟩) hkl
    unfold lookM
    rw [hh, hat, rg_of hy, hzd]
    unfold hE at hz
    rw [← Option.some.inj hz]; rfl
theorem MapAt.upd {kl : Lit} (h : MapAt w P k b M n) (K : Keyed P k) {t e : TypeId} (ht : P.underlying t = some (.map k e)) (hn : n < maxLen) {key : Value} (hkey : keyOf P k key = some kl) (v : Value) :
    ∃ w', (Instr.mapUpdate t (.map (some b)) key v).run P w = .ok () w' ∧ MapAt w' P k b (updM M kl v) (n + if (M kl).isSome then 0 else 1) ∧ w.grownBy w' (some b) := by
  obtain ⟨D, h1, h2, h3⟩ := h
  obtain ⟨w', hrun, r1, r2⟩ := h1.update K ht hn hkey (show hE v = some (.held v, []) from rfl)
  have hs : Maps.size (D.put kl (.held v)) = n + if (M kl).isSome then 0 else 1 := by
    rw [size_put (h1.tidy K), ← h3 kl, has_isSome h1 K kl, h2]
    cases Maps.has D kl <;> rfl
  refine ⟨w', hrun, ⟨_, by rw [← hs]; exact own_size r1, hs, fun x => ?_⟩, r2⟩
  rw [lookM_put h1.isMap (K.key hkey)]
  unfold updM
  split
  · rfl
  · exact h3 x
theorem MapAt.del {kl : Lit} (h : MapAt w P k b M n) (K : Keyed P k) {t e : TypeId} (ht : P.underlying t = some (.map k e)) {key : Value} (hkey : keyOf P k key = some kl) (ty : TypeId) :
    ∃ w', (Builtin.delete_ #[t, k] ty #[.map (some b), key]).run P w = .ok (.tuple #[]) w' ∧ MapAt w' P k b (delM M kl) (n - if (M kl).isSome then 1 else 0) ∧ w.grownBy w' (some b) := by
  obtain ⟨D, h1, h2, h3⟩ := h
  obtain ⟨w', hrun, r1, r2⟩ := h1.drop K ht hkey ty
  have hs : Maps.size (D.del kl) = n - if (M kl).isSome then 1 else 0 := by
    have := size_del (k := kl) (h1.tidy K)
    rw [← h3 kl, has_isSome h1 K kl]
    cases hh : Maps.has D kl <;> simp [hh] at this ⊢ <;> omega
  refine ⟨w', hrun, ⟨_, by rw [← hs]; exact own_size r1, hs, fun x => ?_⟩, r2.grown⟩
  rw [lookM_del (K.key hkey)]
  unfold delM
  split
  · rfl
  · exact h3 x
end
/-- 'for .. range m' under way: what is left, how many -/
def MapRg (w : World) (P : Program) (k : TypeId) (b r : Nat) (M : Lit → Option Value) (n : Nat) (left : Lit → Bool) (cnt : Nat) : Prop :=
  ∃ D : DataW Value, w.ranges P k hE b r n D left cnt ∧ Maps.size D = n ∧ ∀ kl, lookM D kl = M kl
section
variable {w w' : World} {P : Program} {k : TypeId} {b r n cnt : Nat} {M : Lit → Option Value} {left : Lit → Bool}
theorem MapRg.at_ (h : MapRg w P k b r M n left cnt) : MapAt w P k b M n := by obtain ⟨D, h1, h2⟩ := h; exact ⟨D, h1.owns, h2⟩
theorem MapRg.kept {row : Option Nat} (h : MapRg w P k b r M n left cnt) (hg : w.grownBy w' row) (hb : some b ≠ row) (hr : some r ≠ row) : MapRg w' P k b r M n left cnt := by
  obtain ⟨D, h1, h2⟩ := h; exact ⟨D, h1.kept hg hb hr, h2⟩
theorem MapRg.same (h : MapRg w P k b r M n left cnt) (hb : w'.heap[b]? = w.heap[b]?) (hr : w'.heap[r]? = w.heap[r]?) : MapRg w' P k b r M n left cnt := by
  obtain ⟨D, ⟨es, clock, since, seen, c0, a1, a2, a3, a4, a5, a6⟩, h2⟩ := h
  exact ⟨D, ⟨es, clock, since, seen, c0, hb.trans a1, a2, a3, a4, hr.trans a5, a6⟩, h2⟩
theorem MapRg.left_eq (h : MapRg w P k b r M n left cnt) : w.rangeLeft b r = cnt := by obtain ⟨D, h1, _⟩ := h; exact h1.left_eq
theorem MapRg.ne (h : MapRg w P k b r M n left cnt) : r ≠ b := by obtain ⟨D, h1, _⟩ := h; exact h1.ne
theorem MapRg.lt (h : MapRg w P k b r M n left cnt) : r < w.heap.size := by obtain ⟨D, h1, _⟩ := h; exact h1.lt
theorem MapAt.range (h : MapAt w P k b M n) (K : Keyed P k) {t e : TypeId} (ht : P.underlying t = some (.map k e)) :
    ∃ w', (Instr.range t (.map (some b))).run P w = .ok (.pointer (some ⟨w.heap.size, 0, none⟩)) w' ∧ MapRg w' P k b w.heap.size M n (fun kl => (M kl).isSome) n ∧ w.grownBy w' none ∧ w'.heap.size = w.heap.size + 1 := by
  obtain ⟨D, h1, h2, h3⟩ := h
  obtain ⟨w', hrun, r1, r2, r3⟩ := h1.range K ht
  have e : Maps.has D = fun kl => (M kl).isSome := funext fun kl => by rw [← h3 kl, has_isSome h1 K kl]
  rw [e, h2] at r1
  exact ⟨w', hrun, ⟨D, r1, h2, h3⟩, r2, r3⟩
theorem MapRg.next (h : MapRg w P k b r M n left cnt) (K : Keyed P k) (ty : TypeId) :
    (cnt = 0 ∧ (∀ kl, left kl = false) ∧ (Instr.next (.pointer (some ⟨r, 0, none⟩)) false ty).run P w = .ok (.tuple #[.bool false]) w) ∨
    ∃ key v kl w' cnt', keyOf P k key = some kl ∧ left kl = true ∧ M kl = some v ∧ (Instr.next (.pointer (some ⟨r, 0, none⟩)) false ty).run P w = .ok (.tuple #[.bool true, key, v]) w' ∧
      MapRg w' P k b r M n (fun x => left x && !x.sameKey kl) cnt' ∧ cnt' < cnt ∧ w.grownBy w' (some r) ∧ w'.heap.size = w.heap.size ∧ (Instr.entry (.pointer (some ⟨r, 0, none⟩))).run P w' = .ok (.tuple #[key, v]) w' := by
  obtain ⟨D, h1, h2, h3⟩ := h
  rcases h1.next K ty with ⟨a1, a2, a3⟩ | ⟨key, v, kl, y, w', cnt', a1, a2, a3, a4, a5, a6, a7, a8, a9, a10⟩
  · exact .inl ⟨a1, a2, a3⟩
  · refine .inr ⟨key, v, kl, w', cnt', a1, a2, ?_, a5, ⟨D, a6, h2, h3⟩, a7, a8, a9, a10⟩
    unfold hE at a3
    rw [← h3 kl]
    unfold lookM
    rw [has_true_of_atKey a4, a4, ← Option.some.inj a3]; rfl
theorem MapRg.drop (h : MapRg w P k b r M n left cnt) (K : Keyed P k) {t e : TypeId} (ht : P.underlying t = some (.map k e)) {key : Value} {kl : Lit} (hkey : keyOf P k key = some kl) (ty : TypeId) :
    ∃ w' cnt', (Builtin.delete_ #[t, k] ty #[.map (some b), key]).run P w = .ok (.tuple #[]) w' ∧ MapRg w' P k b r (delM M kl) (n - if (M kl).isSome then 1 else 0) (fun x => left x && !x.sameKey kl) cnt' ∧ cnt' ≤ cnt ∧ w.grownBy w' (some b) := by
  obtain ⟨D, h1, h2, h3⟩ := h
  obtain ⟨w', cnt', hrun, r1, r2, r3⟩ := h1.drop K ht hkey ty
  have hs : Maps.size (D.del kl) = n - if (M kl).isSome then 1 else 0 := by
    have := size_del (k := kl) (h1.owns.tidy K)
    rw [← h3 kl, has_isSome h1.owns K kl]
    cases hh : Maps.has D kl <;> simp [hh] at this ⊢ <;> omega
  refine ⟨w', cnt', hrun, ⟨_, ?_, hs, fun x => ?_⟩, r2, r3.grown⟩
  · obtain ⟨es, clock, since, seen, c0, b1, b2, b3, b4, b5⟩ := r1
    refine ⟨es, clock, since, seen, c0, b1, b2, ?_, b4, b5⟩
    rw [← hs, b4]
    simp [Maps.size, length_sorted]
  · rw [lookM_del (K.key hkey)]
    unfold delM
    split
    · rfl
    · exact h3 x
/-- a store at a key that is there -/
theorem MapRg.store (h : MapRg w P k b r M n left cnt) (K : Keyed P k) {t e : TypeId} (ht : P.underlying t = some (.map k e)) (hn : n < maxLen) {key : Value} {kl : Lit} (hkey : keyOf P k key = some kl) (hM : (M kl).isSome = true) (v : Value) :
    ∃ w', (Instr.mapUpdate t (.map (some b)) key v).run P w = .ok () w' ∧ MapRg w' P k b r (updM M kl v) n left cnt ∧ w.grownBy w' (some b) := by
  have hA := h.at_
  obtain ⟨w', hrun, hA', hg⟩ := hA.upd K ht hn hkey v
  rw [if_pos hM, Nat.add_zero] at hA'
  refine ⟨w', hrun, ?_, hg⟩
  have hne := h.ne
  obtain ⟨D, ⟨es, clock, since, seen, c0, hb, F, hs, hD, hr, hold, hc, hl1, hl2, hsc, hsk⟩, h2, h3⟩ := h
  obtain ⟨D', ⟨es', clock', hb', F', hs', hD'⟩, h2', h3'⟩ := hA'
  rcases K.find w hkey es.toList F.keys with ⟨g1, g2⟩ | ⟨j, e0, g1, g2, g3⟩
  · exfalso
    have hf : Maps.has D kl = false := by
      rw [hD]
      cases hh : Maps.has (DataW.map ((es.toList.map (rg P k hE)).foldr DataW.insert [])) kl with
      | false => rfl
      | true =>
        obtain ⟨p, hp, hpk⟩ := List.any_eq_true.1 (show (((es.toList.map (rg P k hE)).foldr DataW.insert []).any fun p => p.1.sameKey kl) = true from hh)
        obtain ⟨x, hx, rfl⟩ := List.mem_map.1 (mem_sorted.1 hp)
        obtain ⟨y, hy⟩ := F.reads x hx
        have hk1 := rd_key hy
        have : (rg P k hE x).1 = kl := WideAt.sameKey_eq hpk
        rw [rg_of hy] at this
        rw [this] at hk1
        exact absurd (K.inj hk1 hkey) (g2 x hx)
    rw [← h3 kl] at hM
    unfold lookM at hM
    rw [hf] at hM
    cases hM
  · have hj : es[j]? = some e0 := by simpa using g2
    have hrun2 : (Instr.mapUpdate t (.map (some b)) key v).run P w = .ok () (setBlock w b (.map (es.modify j fun e' => { e' with key := key, val := v }) clock)) := by
      simp [Instr.mapUpdate, run_underlying ht, MapKept.run_getObj_map hb, K.check w false hkey, g1, hj, g3, K.stays w hkey, MapKept.run_setObj_map _ hb, Result.andThen, setBlock]
    have hw : w' = setBlock w b (.map (es.modify j fun e' => { e' with key := key, val := v }) clock) := by
      rw [hrun] at hrun2
      injection hrun2
    have hb2 := hb'
    rw [hw, heap_setBlock_same hb] at hb2
    obtain ⟨rfl, rfl⟩ : es' = (es.modify j fun e' => { e' with key := key, val := v }) ∧ clock' = clock := by
      injection hb2 with hb2
      injection hb2 with e1 e2
      exact ⟨e1.symm, e2.symm⟩
    have hlist : (es.modify j fun e' => { e' with key := key, val := v }).toList = es.toList.set j { e0 with key := key, val := v } := by rw [Array.toList_modify, modify_eq_set _ _ _ _ g2]
    have hborn : (es.modify j fun e' => { e' with key := key, val := v }).toList.map (·.born) = es.toList.map (·.born) := by
      rw [hlist, List.map_set]
      refine List.ext_getElem (by simp) fun i h1 h2 => ?_
      rw [List.getElem_set]
      split
      · rename_i e; subst e
        have := (List.getElem?_eq_some_iff.1 g2).2
        simp [this]
      · rfl
    have hmem : ∀ x ∈ (es.modify j fun e' => { e' with key := key, val := v }).toList, ∃ x0 ∈ es.toList, x0.born = x.born ∧ x0.key = x.key := by
      intro x hx
      rw [hlist] at hx
      rcases List.mem_or_eq_of_mem_set hx with h1 | h1
      · exact ⟨x, h1, rfl, rfl⟩
      · exact ⟨e0, List.mem_of_getElem? g2, by rw [h1], by rw [h1]; exact g3⟩
    have hrgk : ∀ x ∈ (es.modify j fun e' => { e' with key := key, val := v }).toList, ∀ x0 ∈ es.toList, x0.key = x.key → (rg P k hE x0).1 = (rg P k hE x).1 := by
      intro x hx x0 hx0 e
      obtain ⟨y, hy⟩ := F'.reads x hx
      obtain ⟨y0, hy0⟩ := F.reads x0 hx0
      have m1 := rd_key hy
      have m0 := rd_key hy0
      rw [e, m1] at m0
      rw [rg_of hy, rg_of hy0]
      exact (Option.some.inj m0).symm
    refine ⟨D', ⟨_, _, since, seen, c0, hb', F', hs', hD', ?_, fun x hx => ?_, ?_, fun x hx => ?_, fun kl' hk' => ?_, hsc, hsk⟩, h2', h3'⟩
    · rw [hw]; exact (heap_setBlock_other hb _ hne).trans hr
    · obtain ⟨x0, hx0, e1, _⟩ := hmem x hx
      rw [← e1]; exact hold x0 hx0
    · rw [← hc]
      have e1 : ∀ a : Array MapEntry, (leftOf a seen).size = ((a.toList.map (·.born)).filter fun q => !seen.contains q).length := fun a => by
        unfold leftOf
        rw [← Array.length_toList, Array.toList_filter, List.filter_map, List.length_map]
        rfl
      rw [e1, e1, hborn]
    · obtain ⟨x0, hx0, e1, e2⟩ := hmem x hx
      rw [← hrgk x hx x0 hx0 e2, hl1 x0 hx0, e1]
    · obtain ⟨x, hx, rfl⟩ := hl2 kl' hk'
      obtain ⟨i, hi, rfl⟩ := List.mem_iff_getElem.1 hx
      have hi2 : i < (es.modify j fun e' => { e' with key := key, val := v }).toList.length := by rw [hlist]; simpa using hi
      refine ⟨_, List.getElem_mem hi2, (hrgk _ (List.getElem_mem hi2) _ (List.getElem_mem hi) ?_).symm⟩
      simp only [hlist, List.getElem_set]
      split
      · rename_i e; subst e
        have := (List.getElem?_eq_some_iff.1 g2).2
        rw [this]; exact g3
      · rfl
end
end Go.Proofs.YtlejeelmlclnkaaGreatDoor
