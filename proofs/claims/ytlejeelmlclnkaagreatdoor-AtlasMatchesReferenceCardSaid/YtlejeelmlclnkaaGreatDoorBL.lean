/- WORDS AND WALKS: copying objects; slices.Clone at objects. -/
import Derived.Test.YtlejeelmlclnkaaGreatDoorBK
import Derived.Laws.CopyOwn
import Derived.Lib.AppendZerosOnto
import Derived.Lib.Overlaps
import Derived.Deep.AppendLies
import Derived.Deep.RegionLaw
set_option linter.unusedSimpArgs false
set_option linter.unusedVariables false
namespace Go.Proofs.YtlejeelmlclnkaaGreatDoor
open Go.RowKit

theorem own_rd {w : World} {base : Nat} {e : TypeId} {size n c : Nat} {A : Option Addr} {xs : List Value} (h : w.ownsRow base e size (.slice A n c) n xs) : Rd w A xs := by
  rcases h.2 with ⟨e1, e2⟩ | ⟨g', cap, cur, hv, _, hg, _, _, _, ht⟩
  · have : xs = [] := List.eq_nil_of_length_eq_zero (by rw [h.1, e2]; simp)
    rw [this]; exact Rd.nil_ _ _
  · injection hv with hA _ _
    rw [hA]
    exact Rd.of_row hg (by rw [← ht]; exact List.take_prefix _ _)
theorem own_sl {w : World} {B size n : Nat} {e : TypeId} {v : Value} {X : List Value} (h : w.ownsRow B e size v n X) : ∃ A c, v = .slice A n c ∧ Rd w A X := by
  rcases h.2 with ⟨rfl, rfl⟩ | ⟨g, cap, cur, rfl, _⟩
  · exact ⟨none, 0, rfl, own_rd h⟩
  · exact ⟨_, _, rfl, own_rd h⟩
theorem wpList_appRS {P : Program} {ops : Array Oper} {rest : List Oper} {o : Oper} {a : Act} {Q : Exit → Act → World → Prop} {w : World} (hgd : o.guard = none) (s x : Operand) (t : TypeId)
    (ho : o.op = .call { callee := .builtin .append, args := #[s, x], argTypes := #[t, t] }) {e : TypeId} {z : Value} {size bytes : Nat}
    (ht : P.underlying t = some (.slice e)) (hinfo : (P.info? e).map (fun i => (i.zero, i.size, i.bytes)) = some (some z, size, bytes)) (hzs : z.cells.size = size) (hsz : 0 < size)
    (base : Nat) (v : Value) (n : Nat) (xs : List Value) (A : Option Addr) (m c : Nat) (news : List Value) (h1 : ∀ u ∈ news, u.oneCell' = true)
    (hs : a.eval s = v) (hx : a.eval x = .slice A m c) (hown : w.ownsRow base e size v n xs) (hr : Rd w A news) (hm : news.length = m * size) (hb : base ≤ w.heap.size)
    (hbytes : (n + m) * bytes ≤ 140737488355328) (hmax : n + m ≤ 9223372036854775807)
    (h : ∀ v' w', w'.ownsRow base e size v' (n + m) (xs ++ news) → Below base w w' → w.grownBy w' v.ownBlock → wpList P ops Q rest (a.put o.dst v') w') :
    wpList P ops Q (o :: rest) a w := by
  obtain ⟨i, hi, hz, hsi, hby⟩ := info_parts hinfo
  have nil_case : m = 0 → news = [] := fun h0 => List.eq_nil_of_length_eq_zero (by rw [hm, h0]; simp)
  cases A with
  | none =>
    have h0 : m = 0 := by
      rcases Nat.eq_zero_or_pos m with h0 | h0
      · exact h0
      · obtain ⟨b, off, e, _⟩ := hr (by rw [hm]; exact Nat.mul_pos h0 hsz); cases e
    obtain rfl := nil_case h0
    subst h0
    refine wpList_plain hgd fun K hK => ?_
    have hrun := run_append_none_ (P := P) w (ty := o.type) ht hi hown c
    unfold Oper.wp execOp
    simp only [ho, resolve, invoke, builtin, Sem.run_bind, Sem.run_pure, Result.andThen_ok, List.map_toArray, List.map_cons, List.map_nil, hs, hx, hrun]
    exact hK _ _ (h v w (by simpa using hown) (Below.refl _ _) (World.grownBy.refl _ _))
  | some ad =>
    refine wpList_append_own _ hgd s x t ho base e i z size bytes ht hi hz hsi hby hzs hsz v n xs hs hown ad m c news hx (by omega) ?_ h1 (by simpa [maxLen] using hmax) hbytes hb ?_
    · intro j u hu
      have hj := (List.getElem?_eq_some_iff.1 hu).1
      obtain ⟨b, off, e, _, hc⟩ := hr (by omega)
      cases e
      rw [Addr.add_lit]
      exact hc j u hu
    · intro v' w' hown' hg _
      exact h v' w' hown' (grown_below hg (fun k hk => (hown.lt k hk).1) hb) hg
theorem ros_one {w : World} {l : List RO} (h : ∀ r ∈ l, ObIs w r) : ∀ u ∈ rosC l, u.oneCell' = true := by
  intro u hu
  obtain ⟨p, hp1, hp⟩ := List.mem_flatMap.1 hu
  obtain ⟨A1, q1, v1, -⟩ := (h p hp1).rs
  obtain ⟨A2, q2, v2, -⟩ := (h p hp1).ts
  simp only [roC, v1, v2, List.mem_cons, List.not_mem_nil, or_false] at hp
  rcases hp with rfl | rfl | rfl | rfl | rfl | rfl <;> rfl
theorem own_empty6 (w : World) {cs : Array Value} (hcs : cs = #[]) (t : TypeId) : (w.alloc (.cells cs t)).ownsRow w.heap.size t 6 (.slice (some ⟨w.heap.size, 0, none⟩) 0 0) 0 [] := by
  subst hcs
  exact ⟨rfl, .inr ⟨w.heap.size, 0, #[], rfl, Nat.le_refl _, heap_alloc_new w _, Nat.le_refl _, by simp [maxLen], by simp, by simp⟩⟩
/-- a list of objects of the call's own -/
def OwnPost (w : World) (l : List RO) (e : Ending) (w' : World) : Prop := ∃ v, e = .returned v ∧ w'.ownsRow w.heap.size 43 6 v l.length (rosC l) ∧ Below w.heap.size w w'
set_option maxHeartbeats 1000000 in
theorem clone_any (A : Option Addr) (n c : Nat) (l : List RO) (w : World) (hn : n = l.length) (h : Ms w A l) :
    Calls Tryz.prog 65 #[.slice A n c] w (OwnPost w l) := by
  have hl : n ≤ 100000 := by rw [hn]; exact h.len
  cases A with
  | none =>
    have h0 : l = [] := by
      rcases Nat.eq_zero_or_pos l.length with h0 | h0
      · exact List.eq_nil_of_length_eq_zero h0
      · obtain ⟨b, off, e, _⟩ := h.rd (by rw [rosC_len]; omega); cases e
    subst h0
    clear h hn
    have q : ∀ u : World, (Go.binOp .eql 22 (.slice none n c) (.slice none 0 0)).run Tryz.prog u = .ok (.bool true) u := fun u => Lib.run_eql_slice_nil u _ _ none n c 0 0 Tryz.underlying22
    go_enter Tryz.func65, Tryz.ntmps65
    go_wp2_with fail
    go_ret
    exact ⟨_, rfl, World.ownsRow_nil _ _ _ _, Below.refl _ _⟩
  | some ad =>
    have H := Lib.hid h; have HN := Lib.hid hn; clear h hn
    have HL : Hid ((rosC l).length = n * 6) := Lib.hid (by rw [rosC_len, HN.out])
    have H1 : Hid (∀ o, Rd (w.alloc o) (some ad) (rosC l)) := Lib.hid (fun o => Rd.alloc H.out.rd o)
    have HO := Lib.hid (ros_one H.out.ob)
    have q : ∀ u : World, (Go.binOp .eql 22 (.slice (some ad) n c) (.slice none 0 0)).run Tryz.prog u = .ok (.bool false) u := fun u => Lib.run_eql_slice_nil u _ _ (some ad) n c 0 0 Tryz.underlying22
    go_enter Tryz.func65, Tryz.ntmps65
    go_wp2_with (at_builtin; refine wpList_appRS rfl (.tmp 5) (.tmp 6) 22 rfl Tryz.underlying22 info_ob rfl (by decide) w.heap.size _ 0 _ _ _ _ (rosC l) HO.out rfl rfl (own_empty6 w rfl _) (H1.out _) HL.out (by simp) (by omega) (by omega) ?_; intro v6 w6 hown6 hb6 hg6)
    go_ret
    refine ⟨_, rfl, ?_, ((Below.refl _ _).alloc (Nat.le_refl _) _).trans hb6⟩
    rw [← HN.out]; simpa using hown6
/-- 'copy' at elements of any size -/
theorem run_copyK {P : Program} (w : World) (dT sT ty elem : TypeId) (k : Nat) (g o dLen dCap : Nat) (a : Addr) (sLen sCap m : Nat) (cur : List Value) (t : TypeId) (cs : List Value)
    (hu : P.underlying dT = some (.slice elem)) (hs : (P.info? elem).map (·.size) = some k)
    (hg : w.heap[g]? = some (.cells cur.toArray t (0, 0))) (hm : m = Nat.min sLen dLen) (hn : cs.length = m * k)
    (hsrc : ∀ j v, cs[j]? = some v → w.cell? (a.add j) = some v) (hfit : o + cs.length ≤ cur.length) (h1 : ∀ v ∈ cs, v.oneCell' = true) :
    (Builtin.copy_ #[dT, sT] ty #[.slice (some ⟨g, o, none⟩) dLen dCap, .slice (some a) sLen sCap]).run P w =
      .ok (goInt m) (w.setRow g (splice cur o cs).toArray) := by
  have hl := run_loadCells_list (P := P) w a cs hsrc
  have hst := run_storeCells_at P g o t cs 0 cur.toArray w hg (by simpa using hfit) h1
  cases hq : P.info? elem with
  | none => simp [hq] at hs
  | some i =>
    have hi : i.size = k := by simpa [hq] using hs
    simp [Builtin.copy_, run_underlying hu, Builtin.lenOf, Builtin.firstCells, sizeOf, typeInfo, hq, hi, ← hm, ← hn, hl, hst, splice]
theorem take_splice2 {α : Type} (Z X D : List α) (a : Nat) (h : a + X.length + D.length ≤ Z.length) :
    (splice (splice Z a X) (a + X.length) D).take (a + X.length + D.length) = Z.take a ++ (X ++ D) := by
  unfold splice
  have hl : (Z.take a ++ (X ++ Z.drop (a + X.length))).take (a + X.length) = Z.take a ++ X := by
    rw [← List.append_assoc]
    exact List.take_left' (by simp; omega)
  rw [hl, List.append_assoc, ← List.append_assoc, ← List.append_assoc, List.append_assoc (Z.take a)]
  exact List.take_left' (by simp; omega)
theorem take_splice3 {α : Type} (Z X D : List α) (a : Nat) (h : a + X.length + D.length ≤ Z.length) :
    (splice (splice Z (a + X.length) D) a X).take (a + X.length + D.length) = Z.take a ++ (X ++ D) := by
  unfold splice
  have h1 : (Z.take (a + X.length) ++ (D ++ Z.drop (a + X.length + D.length))).take a = Z.take a := by
    rw [List.take_append_of_le_length (by simp; omega), List.take_take, Nat.min_eq_left (by omega)]
  have h2 : (Z.take (a + X.length) ++ (D ++ Z.drop (a + X.length + D.length))).drop (a + X.length) = D ++ Z.drop (a + X.length + D.length) :=
    List.drop_left' (by simp; omega)
  rw [h1, h2, ← List.append_assoc, ← List.append_assoc, List.append_assoc (Z.take a)]
  exact List.take_left' (by simp; omega)
end Go.Proofs.YtlejeelmlclnkaaGreatDoor
