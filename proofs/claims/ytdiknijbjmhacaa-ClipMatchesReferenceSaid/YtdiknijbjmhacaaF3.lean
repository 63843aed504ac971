/- WALKS: slices.Clone at points. -/
import Derived.Test.YtdiknijbjmhacaaE2
set_option linter.unusedSimpArgs false
set_option linter.unusedVariables false
namespace Go.Proofs.Ytdiknijbjmhacaa
open Go.RowKit

/-- append of all elements of a slice that reads as a list of cells -/
theorem wpList_appRS {P : Program} {ops : Array Oper} {rest : List Oper} {o : Oper} {a : Act} {Q : Exit → Act → World → Prop} {w : World} (hgd : o.guard = none) (s x : Operand) (t : TypeId)
    (ho : o.op = .call { callee := .builtin .append, args := #[s, x], argTypes := #[t, t] }) {e : TypeId} {z : Value} {size bytes : Nat}
    (ht : P.underlying t = some (.slice e)) (hinfo : (P.info? e).map (fun i => (i.zero, i.size, i.bytes)) = some (some z, size, bytes)) (hzs : z.cells.size = size) (hsz : 0 < size)
    (base : Nat) (v : Value) (n : Nat) (xs : List Value) (A : Option Addr) (m c : Nat) (news : List Value) (h1 : ∀ u ∈ news, u.oneCell' = true)
    (hs : a.eval s = v) (hx : a.eval x = .slice A m c) (hown : w.ownsRow base e size v n xs) (hr : Rd w A news) (hm : news.length = m * size) (hb : base ≤ w.heap.size)
    (hbytes : (n + m) * bytes ≤ 140737488355328) (hmax : n + m ≤ 9223372036854775807)
    (h : ∀ v' w', w'.ownsRow base e size v' (n + m) (xs ++ news) → Below base w w' → w.grownBy w' v.ownBlock → wpList P ops Q rest (a.put o.dst v') w') :
    wpList P ops Q (o :: rest) a w := by
  obtain ⟨i, hi, hz, hsi, hby⟩ := info_parts hinfo
  have nil_case : m = 0 → news = [] := fun h0 => List.eq_nil_of_length_eq_zero (by rw [hm, h0]; simp)
  cases A with
  | none =>
    have h0 : m = 0 := by
      rcases Nat.eq_zero_or_pos m with h0 | h0
      · exact h0
      · obtain ⟨b, off, e, _⟩ := hr (by rw [hm]; exact Nat.mul_pos h0 hsz); cases e
    obtain rfl := nil_case h0
    subst h0
    refine wpList_plain hgd fun K hK => ?_
    have hrun := run_append_none_ (P := P) w (ty := o.type) ht hi hown c
    unfold Oper.wp execOp
    simp only [ho, resolve, invoke, builtin, Sem.run_bind, Sem.run_pure, Result.andThen_ok, List.map_toArray, List.map_cons, List.map_nil, hs, hx, hrun]
    exact hK _ _ (h v w (by simpa using hown) (Below.refl _ _) (World.grownBy.refl _ _))
  | some ad =>
    refine wpList_append_own _ hgd s x t ho base e i z size bytes ht hi hz hsi hby hzs hsz v n xs hs hown ad m c news hx (by omega) ?_ h1 (by simpa [maxLen] using hmax) hbytes hb ?_
    · intro j u hu
      have hj := (List.getElem?_eq_some_iff.1 hu).1
      obtain ⟨b, off, e, _, hc⟩ := hr (by omega)
      cases e
      rw [Addr.add_lit]
      exact hc j u hu
    · intro v' w' hown' hg _
      exact h v' w' hown' (grown_below hg (fun k hk => (hown.lt k hk).1) hb) hg
theorem pt_one (l : List Cl.Pt) : ∀ u ∈ l.flatMap ptCells, u.oneCell' = true := by
  intro u hu
  obtain ⟨p, _, hp⟩ := List.mem_flatMap.1 hu
  simp [ptCells] at hp
  rcases hp with rfl | rfl <;> rfl
theorem own_empty (w : World) {cs : Array Value} (hcs : cs = #[]) (t : TypeId) : (w.alloc (.cells cs t)).ownsRow w.heap.size t 2 (.slice (some ⟨w.heap.size, 0, none⟩) 0 0) 0 [] := by
  subst hcs
  exact ⟨rfl, .inr ⟨w.heap.size, 0, #[], rfl, Nat.le_refl _, heap_alloc_new w _, Nat.le_refl _, by simp [maxLen], by simp, by simp⟩⟩

def ClonePost (w : World) (l : List Cl.Pt) (e : Ending) (w' : World) : Prop := ∃ v, e = .returned v ∧ w'.ownsRow w.heap.size 24 2 v l.length (l.flatMap ptCells) ∧ Below w.heap.size w w'
set_option maxHeartbeats 1000000 in
theorem clone_any (A : Option Addr) (n c : Nat) (l : List Cl.Pt) (w : World) (hn : n = l.length) (hl : n ≤ 1000000) (h : Rp w A l) :
    Calls Try.prog 38 #[.slice A n c] w (ClonePost w l) := by
  cases A with
  | none =>
    have h0 : l = [] := by
      rcases Nat.eq_zero_or_pos l.length with h0 | h0
      · exact List.eq_nil_of_length_eq_zero h0
      · obtain ⟨b, off, e, _⟩ := Rp.at_ h h0; cases e
    subst h0
    clear h hn
    have q : ∀ u : World, (Go.binOp .eql 22 (.slice none n c) (.slice none 0 0)).run Try.prog u = .ok (.bool true) u := fun u => Lib.run_eql_slice_nil u _ _ none n c 0 0 Try.underlying22
    go_enter Try.func38, Try.ntmps38
    go_wp2
    go_ret
    exact ⟨_, rfl, World.ownsRow_nil _ _ _ _, Below.refl _ _⟩
  | some ad =>
    have H := Lib.hid h; have HN := Lib.hid hn; clear h hn
    have HL : Hid ((l.flatMap ptCells).length = n * 2) := Lib.hid (by rw [ptCells_len, HN.out])
    have H1 : Hid (∀ o, Rd (w.alloc o) (some ad) (l.flatMap ptCells)) := Lib.hid (fun o => Rd.alloc H.out o)
    have q : ∀ u : World, (Go.binOp .eql 22 (.slice (some ad) n c) (.slice none 0 0)).run Try.prog u = .ok (.bool false) u := fun u => Lib.run_eql_slice_nil u _ _ (some ad) n c 0 0 Try.underlying22
    go_enter Try.func38, Try.ntmps38
    go_wp2_with (at_builtin; refine wpList_appRS rfl (.tmp 5) (.tmp 6) 22 rfl Try.underlying22 info_pt rfl (by decide) w.heap.size _ 0 _ _ _ _ (l.flatMap ptCells) (pt_one l) rfl rfl (own_empty w rfl _) (H1.out _) HL.out (by simp) (by omega) (by omega) ?_; intro v6 w6 hown6 hb6 hg6)
    go_ret
    refine ⟨_, rfl, ?_, ((Below.refl _ _).alloc (Nat.le_refl _) _).trans hb6⟩
    rw [← HN.out]; simpa using hown6
end Go.Proofs.Ytdiknijbjmhacaa
