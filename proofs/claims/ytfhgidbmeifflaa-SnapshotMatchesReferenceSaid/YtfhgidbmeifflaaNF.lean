/- WORDS AND WALKS: a shelf with one history changed; slices.Clone at values. -/
import Derived.Test.YtfhgidbmeifflaaNE
set_option linter.unusedSimpArgs false
set_option linter.unusedVariables false
namespace Go.Proofs.Ytfhgidbmeifflaa
open Go.RowKit Go.Maps Go.ChangeMaps Go.MapKept Go.WideShapes Go.WideMaps

def setK {α : Type} (f : List UInt8 → α) (t : List UInt8) (x : α) : List UInt8 → α := fun u => if u = t then x else f u
theorem setK_self {α : Type} (f : List UInt8 → α) (t : List UInt8) (x : α) : setK f t x t = x := if_pos rfl
theorem setK_ne {α : Type} (f : List UInt8 → α) {t u : List UInt8} (x : α) (h : u ≠ t) : setK f t x u = f u := if_neg h
theorem keyM_upd (hd : List UInt8 → Option Value) (t : List UInt8) (v : Value) : updM (keyM hd) (.string t) v = keyM (setK hd t (some v)) := by
  funext kl
  unfold updM
  by_cases e : kl = .string t
  · subst e
    rw [if_pos (by simp [same_str])]
    exact (setK_self hd t (some v)).symm
  · rw [if_neg (by rw [Maps.sameKey_ne e]; simp)]
    cases kl with
    | string u => exact (setK_ne hd (some v) (fun h => e (by rw [h]))).symm
    | _ => rfl
theorem keyM_del (hd : List UInt8 → Option Value) (t : List UInt8) : delM (keyM hd) (.string t) = keyM (setK hd t none) := by
  funext kl
  unfold delM
  by_cases e : kl = .string t
  · subst e
    rw [if_pos (by simp [same_str])]
    exact (setK_self hd t none).symm
  · rw [if_neg (by rw [Maps.sameKey_ne e]; simp)]
    cases kl with
    | string u => exact (setK_ne hd none (fun h => e (by rw [h]))).symm
    | _ => rfl
/-- one history is put -/
theorem ShMem.put {w w' : World} {p : Nat} {F : Nat → Prop} {s s' : Sh} {bm br nk nk' : Nat} {hd : List UInt8 → Option Value} (h : ShMem w p F s bm br nk hd) (t : List UInt8) (v : Value) (l : List Sn.Val) (hz : w.heap.size ≤ w'.heap.size)
    (hkeep : ∀ g, F g → g ≠ p → g ≠ bm → (∀ v0, hd t = some v0 → v0.ownBlock ≠ some g) → w'.heap[g]? = w.heap[g]?)
    (blk : w'.heap[p]? = some (.cells #[.int .i64 (s'.ver : Int), .int .i64 (s'.clk : Int), .map (some bm), .map (some br), .int .i64 (s'.opn : Int)] 53 (0, 0)))
    (km : MapAt w' Try.prog 9 bm (updM (keyM hd) (.string t) v) nk') (hl : l ≠ []) (row : w'.ownsRow 0 62 4 v l.length (rows l))
    (hfr : ∀ g, v.ownBlock = some g → w.heap.size ≤ g ∨ ∃ v0, hd t = some v0 ∧ v0.ownBlock = some g)
    (ek : s'.keys = setK s.keys t l) (er : s'.rd = s.rd) (en : s'.nrd = s.nrd) (hnk : nk' ≤ s'.lim) :
    ShMem w' p (fun g => F g ∨ v.ownBlock = some g) s' bm br nk' (setK hd t (some v)) := by
  have hlt : ∀ g, v.ownBlock = some g → g < w'.heap.size := fun g hg => (row.lt g hg).2
  refine ⟨blk, by rw [← keyM_upd]; exact km, by rw [er, en]; exact h.rm.same (hkeep _ h.fr h.ne_p.2 (fun e => h.ne e.symm) (fun v0 h0 he => (h.row_ne h0 he).2.2 rfl)), ?_, ?_, ?_, .inl h.fp, .inl h.fm, .inl h.fr, ?_, h.ne, hnk, ?_⟩
  · intro u hu
    rw [ek]
    by_cases e : u = t
    · subst e; rw [setK_self] at hu; cases hu
    · rw [setK_ne _ _ e] at hu ⊢; exact h.none_ u hu
  · intro u v1 hu
    rw [ek]
    by_cases e : u = t
    · subst e
      rw [setK_self] at hu ⊢
      cases hu
      exact ⟨hl, row⟩
    · rw [setK_ne _ _ e] at hu ⊢
      refine ⟨(h.row u v1 hu).1, ?_⟩
      obtain ⟨h1, h2⟩ := (h.row u v1 hu).2
      refine ⟨h1, ?_⟩
      rcases h2 with h2 | ⟨g, cap, cur, ee, hg, hh, rest⟩
      · exact .inl h2
      · have hv1 : v1.ownBlock = some g := by rw [ee]; rfl
        obtain ⟨n1, n2, n3⟩ := h.row_ne hu hv1
        exact .inr ⟨g, cap, cur, ee, hg, (hkeep g (h.frow u v1 g hu hv1) n1 n2 (fun v0 h0 => h.sep u t v1 v0 e hu h0 g hv1)).trans hh, rest⟩
  · intro a b va vb hab ha hb g hga hgb
    by_cases ea : a = t
    · subst ea
      rw [setK_self] at ha; cases ha
      rw [setK_ne _ _ (fun e => hab e.symm)] at hb
      rcases hfr g hga with h1 | ⟨v0, h0, h1⟩
      · have := h.lt g (h.frow b vb g hb hgb); omega
      · exact h.sep a b v0 vb hab h0 hb g h1 hgb
    · rw [setK_ne _ _ ea] at ha
      by_cases eb : b = t
      · subst eb
        rw [setK_self] at hb; cases hb
        rcases hfr g hgb with h1 | ⟨v0, h0, h1⟩
        · have := h.lt g (h.frow a va g ha hga); omega
        · exact h.sep a b va v0 hab ha h0 g hga h1
      · rw [setK_ne _ _ eb] at hb
        exact h.sep a b va vb hab ha hb g hga hgb
  · intro u v1 g hu hg
    by_cases e : u = t
    · subst e; rw [setK_self] at hu; cases hu; exact .inr hg
    · rw [setK_ne _ _ e] at hu; exact .inl (h.frow u v1 g hu hg)
  · rintro g (hg | hg)
    · exact Nat.lt_of_lt_of_le (h.lt g hg) hz
    · exact hlt g hg
/-! ### append of a slice that reads as cells; Clone -/
theorem wpList_appRS {P : Program} {ops : Array Oper} {rest : List Oper} {o : Oper} {a : Act} {Q : Exit → Act → World → Prop} {w : World} (hgd : o.guard = none) (s x : Operand) (t : TypeId)
    (ho : o.op = .call { callee := .builtin .append, args := #[s, x], argTypes := #[t, t] }) {e : TypeId} {z : Value} {size bytes : Nat}
    (ht : P.underlying t = some (.slice e)) (hinfo : (P.info? e).map (fun i => (i.zero, i.size, i.bytes)) = some (some z, size, bytes)) (hzs : z.cells.size = size) (hsz : 0 < size)
    (base : Nat) (v : Value) (n : Nat) (xs : List Value) (A : Option Addr) (m c : Nat) (news : List Value) (h1 : ∀ u ∈ news, u.oneCell' = true)
    (hs : a.eval s = v) (hx : a.eval x = .slice A m c) (hown : w.ownsRow base e size v n xs) (hr : Rd w A news) (hm : news.length = m * size) (hb : base ≤ w.heap.size)
    (hbytes : (n + m) * bytes ≤ 140737488355328) (hmax : n + m ≤ 9223372036854775807)
    (h : ∀ v' w', w'.ownsRow base e size v' (n + m) (xs ++ news) → Below base w w' → w.grownBy w' v.ownBlock → wpList P ops Q rest (a.put o.dst v') w') :
    wpList P ops Q (o :: rest) a w := by
  obtain ⟨i, hi, hz, hsi, hby⟩ := info_parts hinfo
  have nil_case : m = 0 → news = [] := fun h0 => List.eq_nil_of_length_eq_zero (by rw [hm, h0]; simp)
  cases A with
  | none =>
    have h0 : m = 0 := by
      rcases Nat.eq_zero_or_pos m with h0 | h0
      · exact h0
      · obtain ⟨b, off, e, _⟩ := hr (by rw [hm]; exact Nat.mul_pos h0 hsz); cases e
    obtain rfl := nil_case h0
    subst h0
    refine wpList_plain hgd fun K hK => ?_
    have hrun := run_append_none_ (P := P) w (ty := o.type) ht hi hown c
    unfold Oper.wp execOp
    simp only [ho, resolve, invoke, builtin, Sem.run_bind, Sem.run_pure, Result.andThen_ok, List.map_toArray, List.map_cons, List.map_nil, hs, hx, hrun]
    exact hK _ _ (h v w (by simpa using hown) (Below.refl _ _) (World.grownBy.refl _ _))
  | some ad =>
    refine wpList_append_own _ hgd s x t ho base e i z size bytes ht hi hz hsi hby hzs hsz v n xs hs hown ad m c news hx (by omega) ?_ h1 (by simpa [maxLen] using hmax) hbytes hb ?_
    · intro j u hu
      have hj := (List.getElem?_eq_some_iff.1 hu).1
      obtain ⟨b, off, e, _, hc⟩ := hr (by omega)
      cases e
      rw [Addr.add_lit]
      exact hc j u hu
    · intro v' w' hown' hg _
      exact h v' w' hown' (grown_below hg (fun k hk => (hown.lt k hk).1) hb) hg
theorem info_val : (Try.prog.info? 62).map (fun i => (i.zero, i.size, i.bytes)) = some (some (.agg #[.int .i64 0, .string .empty, .bool false, .bool false]), 4, 32) := by kernel_rfl
theorem rows_one (l : List Sn.Val) : ∀ u ∈ rows l, u.oneCell' = true := by
  intro u hu
  obtain ⟨p, _, hp⟩ := List.mem_flatMap.1 hu
  simp [vCells] at hp
  rcases hp with rfl | rfl | rfl | rfl <;> rfl
theorem own_empty4 (w : World) {cs : Array Value} (hcs : cs = #[]) (t : TypeId) : (w.alloc (.cells cs t)).ownsRow w.heap.size t 4 (.slice (some ⟨w.heap.size, 0, none⟩) 0 0) 0 [] := by
  subst hcs
  exact ⟨rfl, .inr ⟨w.heap.size, 0, #[], rfl, Nat.le_refl _, heap_alloc_new w _, Nat.le_refl _, by simp [maxLen], by simp, by simp⟩⟩
def ClonePost (w : World) (l : List Sn.Val) (e : Ending) (w' : World) : Prop := ∃ v, e = .returned v ∧ w'.ownsRow w.heap.size 62 4 v l.length (rows l) ∧ Below w.heap.size w w'
set_option maxHeartbeats 1000000 in
theorem clone_any (A : Option Addr) (n c : Nat) (l : List Sn.Val) (w : World) (hn : n = l.length) (hl : n ≤ 1000000) (h : Rd w A (rows l)) :
    Calls Try.prog 34 #[.slice A n c] w (ClonePost w l) := by
  cases A with
  | none =>
    have h0 : l = [] := by
      rcases Nat.eq_zero_or_pos l.length with h0 | h0
      · exact List.eq_nil_of_length_eq_zero h0
      · obtain ⟨b, off, e, _⟩ := h (by rw [rows_len]; omega); cases e
    subst h0
    clear h hn
    have q : ∀ u : World, (Go.binOp .eql 60 (.slice none n c) (.slice none 0 0)).run Try.prog u = .ok (.bool true) u := fun u => Lib.run_eql_slice_nil u _ _ none n c 0 0 Try.underlying60
    go_enter Try.func34, Try.ntmps34
    go_wp2
    go_ret
    exact ⟨_, rfl, World.ownsRow_nil _ _ _ _, Below.refl _ _⟩
  | some ad =>
    have H := Lib.hid h; have HN := Lib.hid hn; clear h hn
    have HL : Hid ((rows l).length = n * 4) := Lib.hid (by rw [rows_len, HN.out])
    have H1 : Hid (∀ o, Rd (w.alloc o) (some ad) (rows l)) := Lib.hid (fun o => Rd.alloc H.out o)
    have q : ∀ u : World, (Go.binOp .eql 60 (.slice (some ad) n c) (.slice none 0 0)).run Try.prog u = .ok (.bool false) u := fun u => Lib.run_eql_slice_nil u _ _ (some ad) n c 0 0 Try.underlying60
    go_enter Try.func34, Try.ntmps34
    go_wp2_with (at_builtin; refine wpList_appRS rfl (.tmp 5) (.tmp 6) 60 rfl Try.underlying60 info_val rfl (by decide) w.heap.size _ 0 _ _ _ _ (rows l) (rows_one l) rfl rfl (own_empty4 w rfl _) (H1.out _) HL.out (by simp) (by omega) (by omega) ?_; intro v6 w6 hown6 hb6 hg6)
    go_ret
    refine ⟨_, rfl, ?_, ((Below.refl _ _).alloc (Nat.le_refl _) _).trans hb6⟩
    rw [← HN.out]; simpa using hown6
end Go.Proofs.Ytfhgidbmeifflaa
