import Derived.Test.YtniklmikdkjgiaaGreatDoorcXI
import Derived.Test.YtniklmikdkjgiaaGreatDoorWD
set_option linter.all false
set_option maxHeartbeats 16000000
set_option maxRecDepth 100000
namespace Go.Proofs.YtniklmikdkjgiaaGreatDoor
open Go.RowKit
structure AddI (b B : Nat) (w0 : World) (o0 : Option Nat) (v : Value) (l : List Tx) (w : World) : Prop where
  box : w.heap[b]? = some (.cells #[v] 103 (0, 0))
  own : w.ownsRow B 9 1 v l.length (strsC l)
  ne : v.ownBlock ≠ some b
  blk : v.ownBlock = o0 ∨ ∀ g, v.ownBlock = some g → w0.heap.size ≤ g
  os : w.os = w0.os
  tape : w.tape = w0.tape
  output : w.output = w0.output
  size : w0.heap.size ≤ w.heap.size
  kp : ∀ k, k < w0.heap.size → k ≠ b → o0 ≠ some k → w.heap[k]? = w0.heap[k]?
def AddE (b B : Nat) (w0 : World) (o0 : Option Nat) (l : List Tx) (w : World) : Prop := ∃ v, AddI b B w0 o0 v l w
theorem AddI.start {b B : Nat} {v : Value} {l : List Tx} {w : World} (hb : w.heap[b]? = some (.cells #[v] 103 (0, 0))) (ho : w.ownsRow B 9 1 v l.length (strsC l)) (hn : v.ownBlock ≠ some b) : AddI b B w v.ownBlock v l w :=
  ⟨hb, ho, hn, .inl rfl, rfl, rfl, rfl, Nat.le_refl _, fun _ _ _ _ => rfl⟩
theorem AddI.call {b B : Nat} {w0 w w' : World} {o0 : Option Nat} {v : Value} {l : List Tx} (h : AddI b B w0 o0 v l w) (k : Below w.heap.size w w') : AddI b B w0 o0 v l w' :=
  ⟨(k.block b (lt_of_block h.box)).trans h.box, own_below h.own k (Nat.le_refl _), h.ne, h.blk, k.os.trans h.os, k.tape.trans h.tape, k.output.trans h.output, Nat.le_trans h.size k.size, fun q hq h1 h2 => (k.block q (Nat.lt_of_lt_of_le hq h.size)).trans (h.kp q hq h1 h2)⟩
theorem AddI.trans {b B : Nat} {w0 w w' : World} {o0 : Option Nat} {v : Value} {l l' : List Tx} (h : AddI b B w0 o0 v l w) (k : AddE b B w v.ownBlock l' w') : AddE b B w0 o0 l' w' := by
  obtain ⟨v', k⟩ := k
  have nb : ∀ q, q < w0.heap.size → o0 ≠ some q → v.ownBlock ≠ some q := fun q hq h2 e => by
    rcases h.blk with hb | hb
    · exact h2 (hb.symm.trans e)
    · have := hb q e; omega
  refine ⟨v', k.box, k.own, k.ne, ?_, k.os.trans h.os, k.tape.trans h.tape, k.output.trans h.output, Nat.le_trans h.size k.size, fun q hq h1 h2 => (k.kp q (Nat.lt_of_lt_of_le hq h.size) h1 (nb q hq h2)).trans (h.kp q hq h1 h2)⟩
  rcases k.blk with hb | hb
  · rcases h.blk with hc | hc
    · exact .inl (hb.trans hc)
    · exact .inr (fun g hg => hc g (hb.symm.trans hg))
  · exact .inr (fun g hg => Nat.le_trans h.size (hb g hg))
theorem AddI.app {b B : Nat} {w0 w w' : World} {o0 : Option Nat} {v v' : Value} {l news : List Tx} (h : AddI b B w0 o0 v l w) (ho : w'.ownsRow B 9 1 v' (l.length + news.length) (strsC l ++ strsC news)) (hg : w.grownBy w' v.ownBlock) (hb : v'.ownBlock = v.ownBlock ∨ v'.ownBlock = some w.heap.size) :
    AddI b B w0 o0 v' (l ++ news) (w'.setCell ⟨b, 0, none⟩ v') := by
  have lb := lt_of_block h.box
  have ne' : v'.ownBlock ≠ some b := by
    rcases hb with hb | hb
    · rw [hb]; exact h.ne
    · rw [hb]; intro e; injection e with e; omega
  have bx : w'.heap[b]? = some (.cells #[v] 103 (0, 0)) := (hg.block b lb (fun e => h.ne e.symm)).trans h.box
  have o2 : (w'.setCell ⟨b, 0, none⟩ v').ownsRow B 9 1 v' (l.length + news.length) (strsC l ++ strsC news) := own_sameG ho (fun g hg => Below.heap_setCell w' ⟨b, 0, none⟩ v' g (by rintro rfl; exact ne' hg))
  have nb : ∀ q, q < w0.heap.size → o0 ≠ some q → v.ownBlock ≠ some q := fun q hq h2 e => by
    rcases h.blk with hb | hb
    · exact h2 (hb.symm.trans e)
    · have := hb q e; omega
  refine ⟨?_, by rw [List.length_append, strsC_app]; exact o2, ne', ?_, hg.os.trans h.os, hg.tape.trans h.tape, hg.output.trans h.output, ?_, fun q hq h1 h2 => ?_⟩
  · have := row_put8 (k := 0) bx v'
    simpa using this
  · rcases hb with hb | hb
    · rcases h.blk with hc | hc
      · exact .inl (hb.trans hc)
      · exact .inr (fun g hg => hc g (hb.symm.trans hg))
    · exact .inr (fun g hg => by rw [hb] at hg; injection hg with hg; have := h.size; omega)
  · have := hg.size; have := h.size; simp; omega
  · refine (Below.heap_setCell w' ⟨b, 0, none⟩ v' q (by exact h1)).trans ?_
    exact (hg.block q (Nat.lt_of_lt_of_le hq h.size) (fun e => nb q hq h2 e.symm)).trans (h.kp q hq h1 h2)
def Rd2 (w : World) (b : Nat) (o0 : Option Nat) (A : Option Addr) (xs : List Value) : Prop := 0 < xs.length → ∃ g off, A = some ⟨g, off, none⟩ ∧ g < w.heap.size ∧ g ≠ b ∧ o0 ≠ some g ∧ ∀ i u, xs[i]? = some u → w.cell? ⟨g, off + i, none⟩ = some u
theorem AddI.rd {b B : Nat} {w0 w : World} {o0 : Option Nat} {v : Value} {l : List Tx} {A : Option Addr} {xs : List Value} (h : AddI b B w0 o0 v l w) (k : Rd2 w0 b o0 A xs) : Rd w A xs := fun h0 => by
  obtain ⟨g, off, e, hg, h1, h2, hc⟩ := k h0
  exact ⟨g, off, e, Nat.lt_of_lt_of_le hg h.size, fun i u hu => (cell_same (p := ⟨g, off + i, none⟩) (h.kp g hg h1 h2)).trans (hc i u hu)⟩
theorem wp_appF {P : Program} {o : Oper} {a : Act} {K : Act → World → Prop} {Q : Exit → Act → World → Prop} {w : World} (s x : Operand) (t : TypeId)
    (ho : o.op = .call { callee := .builtin .append, args := #[s, x], argTypes := #[t, t] }) {e : TypeId} {z : Value} {size bytes : Nat}
    (ht : P.underlying t = some (.slice e)) (hinfo : (P.info? e).map (fun i => (i.zero, i.size, i.bytes)) = some (some z, size, bytes)) (hzs : z.cells.size = size) (hsz : 0 < size)
    (base : Nat) (v : Value) (n : Nat) (xs : List Value) (A : Option Addr) (m c : Nat) (news : List Value) (h1 : ∀ u ∈ news, u.oneCell' = true)
    (hs : a.eval s = v) (hx : a.eval x = .slice A m c) (hown : w.ownsRow base e size v n xs) (hr : Rd w A news) (hm : news.length = m * size) (hb : base ≤ w.heap.size)
    (hbytes : (n + m) * bytes ≤ 140737488355328) (hmax : n + m ≤ 9223372036854775807)
    (h : ∀ v' w', w'.ownsRow base e size v' (n + m) (xs ++ news) → w.grownBy w' v.ownBlock → (v'.ownBlock = v.ownBlock ∨ v'.ownBlock = some w.heap.size) → K (a.put o.dst v') w') : Oper.wp P o a w K Q := by
  obtain ⟨i, hi, hz, hsi, hby⟩ := info_parts hinfo
  have fin : ∀ v' w', (Builtin.append_ #[t, t] o.type #[v, .slice A m c]).run P w = .ok v' w' → w'.ownsRow base e size v' (n + m) (xs ++ news) → w.grownBy w' v.ownBlock → (v'.ownBlock = v.ownBlock ∨ v'.ownBlock = some w.heap.size) → Oper.wp P o a w K Q := by
    intro v' w' hrun ho' hg hq
    have hK := h v' w' ho' hg hq
    unfold Oper.wp execOp
    simp only [ho, resolve, invoke, builtin, Sem.run_bind, Sem.run_pure, Result.andThen_ok, List.map_toArray, List.map_cons, List.map_nil, hs, hx, hrun]
    exact hK
  cases A with
  | none =>
    have h0 : m = 0 := by
      rcases Nat.eq_zero_or_pos m with h0 | h0
      · exact h0
      · obtain ⟨b, off, e, _⟩ := hr (by rw [hm]; exact Nat.mul_pos h0 hsz); cases e
    have hn0 : news = [] := List.eq_nil_of_length_eq_zero (by rw [hm, h0]; simp)
    subst h0 hn0
    exact fin v w (run_append_none_ w ht hi hown c) (by simpa using hown) (World.grownBy.refl _ _) (.inl rfl)
  | some ad =>
    obtain ⟨v', w', h2, h3, h4, -, h5⟩ := run_append_own_at (P := P) w base t o.type e i z size bytes ht hi hz hsi hby hzs hsz v n xs hown ad m c news hm (fun j u hu => by
      have hj := (List.getElem?_eq_some_iff.1 hu).1
      obtain ⟨b, off, e, _, hc⟩ := hr (by omega)
      injection e with e
      subst e
      rw [Addr.add_lit]
      exact hc j u hu) h1 (by simpa [maxLen] using hmax) hbytes hb
    exact fin v' w' h2 h3 h4 h5
theorem wpList_appF {P : Program} {ops : Array Oper} {rest : List Oper} {o : Oper} {a : Act} {Q : Exit → Act → World → Prop} {w : World} (hgd : o.guard = none) (s x : Operand) (t : TypeId)
    (ho : o.op = .call { callee := .builtin .append, args := #[s, x], argTypes := #[t, t] }) {e : TypeId} {z : Value} {size bytes : Nat}
    (ht : P.underlying t = some (.slice e)) (hinfo : (P.info? e).map (fun i => (i.zero, i.size, i.bytes)) = some (some z, size, bytes)) (hzs : z.cells.size = size) (hsz : 0 < size)
    (base : Nat) (v : Value) (n : Nat) (xs : List Value) (A : Option Addr) (m c : Nat) (news : List Value) (h1 : ∀ u ∈ news, u.oneCell' = true)
    (hs : a.eval s = v) (hx : a.eval x = .slice A m c) (hown : w.ownsRow base e size v n xs) (hr : Rd w A news) (hm : news.length = m * size) (hb : base ≤ w.heap.size)
    (hbytes : (n + m) * bytes ≤ 140737488355328) (hmax : n + m ≤ 9223372036854775807)
    (h : ∀ v' w', w'.ownsRow base e size v' (n + m) (xs ++ news) → w.grownBy w' v.ownBlock → (v'.ownBlock = v.ownBlock ∨ v'.ownBlock = some w.heap.size) → wpList P ops Q rest (a.put o.dst v') w') : wpList P ops Q (o :: rest) a w :=
  wpList_plain hgd fun _ hK => wp_appF s x t ho ht hinfo hzs hsz base v n xs A m c news h1 hs hx hown hr hm hb hbytes hmax fun v' w' h2 h3 h4 => hK _ _ (h v' w' h2 h3 h4)
end Go.Proofs.YtniklmikdkjgiaaGreatDoor
namespace Go.Proofs.YtniklmikdkjgiaaGreatDoor
open Go.RowKit
theorem any_at {w : World} {A : Option Addr} {l : List Value} (h : Rd w A l) {k : Nat} (hk : k < l.length) : ∃ b off, A = some ⟨b, off, none⟩ ∧ b < w.heap.size ∧ w.cell? ⟨b, off + k, none⟩ = some l[k] := h.at_ hk
inductive It where
  | n (i : Nat)
  | s (t : Tx)
  | b (x : Bool)
  | l (A : Option Addr) (c : Nat) (xs : List Tx)
def itV : It → Value
  | .n i => .iface 3 (.int .i64 (i : Int))
  | .s t => .iface 9 (.string (mkB t))
  | .b x => .iface 4 (.bool x)
  | .l A c xs => .iface 35 (.slice A xs.length c)
def itF : It → List Tx
  | .n i => [Dg.dec i]
  | .s t => [t]
  | .b x => [Dg.dec (if x then 1 else 0)]
  | .l _ _ xs => Dg.dec xs.length :: xs
def itOk (w : World) (b : Nat) (o0 : Option Nat) : It → Prop
  | .n i => i ≤ 1000000000
  | .s _ => True
  | .b _ => True
  | .l A _ xs => xs.length ≤ 1000000 ∧ Rd2 w b o0 A (strsC xs)
theorem info_strB : (Tryz.prog.info? 9).map (fun i => (i.zero, i.size, i.bytes)) = some (some (.string .empty), 1, 16) := by kernel_rfl
theorem as_3_3 (v : Value) (W : World) : (Instr.typeAssert (.iface 3 v) 20 3 true).run Tryz.prog W = .ok (.tuple #[v, .bool true]) W := by kernel_rfl
theorem as_9_3 (v : Value) (W : World) : (Instr.typeAssert (.iface 9 v) 20 3 true).run Tryz.prog W = .ok (.tuple #[.int .i64 0, .bool false]) W := by kernel_rfl
theorem as_9_9 (v : Value) (W : World) : (Instr.typeAssert (.iface 9 v) 20 9 true).run Tryz.prog W = .ok (.tuple #[v, .bool true]) W := by kernel_rfl
theorem as_4_3 (v : Value) (W : World) : (Instr.typeAssert (.iface 4 v) 20 3 true).run Tryz.prog W = .ok (.tuple #[.int .i64 0, .bool false]) W := by kernel_rfl
theorem as_4_9 (v : Value) (W : World) : (Instr.typeAssert (.iface 4 v) 20 9 true).run Tryz.prog W = .ok (.tuple #[.string ⟨#[]⟩, .bool false]) W := by kernel_rfl
theorem as_4_4 (v : Value) (W : World) : (Instr.typeAssert (.iface 4 v) 20 4 true).run Tryz.prog W = .ok (.tuple #[v, .bool true]) W := by kernel_rfl
theorem as_35_3 (v : Value) (W : World) : (Instr.typeAssert (.iface 35 v) 20 3 true).run Tryz.prog W = .ok (.tuple #[.int .i64 0, .bool false]) W := by kernel_rfl
theorem as_35_9 (v : Value) (W : World) : (Instr.typeAssert (.iface 35 v) 20 9 true).run Tryz.prog W = .ok (.tuple #[.string ⟨#[]⟩, .bool false]) W := by kernel_rfl
theorem as_35_4 (v : Value) (W : World) : (Instr.typeAssert (.iface 35 v) 20 4 true).run Tryz.prog W = .ok (.tuple #[.bool false, .bool false]) W := by kernel_rfl
theorem as_35_35 (v : Value) (W : World) : (Instr.typeAssert (.iface 35 v) 20 35 true).run Tryz.prog W = .ok (.tuple #[v, .bool true]) W := by kernel_rfl
theorem addn_any (b B : Nat) (v0 : Value) (l0 : List Tx) (its : List Nat) (A : Option Addr) (n c : Nat) (w : World) (hn : n = its.length) (hl : n ≤ 1000) (hB : B ≤ w.heap.size) (hL : l0.length ≤ 1000000000)
    (h0 : AddI b B w v0.ownBlock v0 l0 w) (hr : Rd2 w b v0.ownBlock A (its.map fun i => itV (.n i))) (hi : ∀ i ∈ its, i ≤ 1000000000) (ht : Tab w) (htb : ∀ o, ∀ u, AddE b B w v0.ownBlock o u → Tab u) :
    Calls Tryz.prog 111 #[.pointer (some ⟨b, 0, none⟩), .slice A n c] w fun e w' => e = .returned (.tuple #[]) ∧ AddE b B w v0.ownBlock (l0 ++ its.map Dg.dec) w' := by
  have HR := Lib.hid hr
  have HN := Lib.hid hn
  have HI := Lib.hid hi
  have TT := Lib.hid htb
  have S0 : Hid (AddE b B w v0.ownBlock (l0 ++ (its.take 0).map Dg.dec) w) := Lib.hid (by rw [List.take_zero, List.map_nil, List.append_nil]; exact ⟨v0, h0⟩)
  clear hr hn hi ht htb h0
  go_enter Tryz.func111, Tryz.ntmps111
  go_wp2_with fail
  go_loopw [5, 6, 7, 8, 9, 10, 11, 13, 16] (fun s5 s6 s7 s8 s9 s10 s11 s13 s16 wr => ∃ k : Nat, k ≤ n ∧ s16 = .int .i64 (k : Int) ∧ (∃ p, s5 = p) ∧ (∃ p, s6 = p) ∧ (∃ p, s7 = p) ∧ (∃ p, s8 = p) ∧ (∃ p, s9 = p) ∧ (∃ p, s10 = p) ∧ (∃ p, s11 = p) ∧ (∃ p, s13 = p) ∧ Hid (AddE b B w v0.ownBlock (l0 ++ (its.take k).map Dg.dec) wr)) (fun _ _ _ _ _ _ _ _ i _ => n - (intOf i).toNat)
  case atStart => exact ⟨0, Nat.zero_le _, rfl, ⟨_, rfl⟩, ⟨_, rfl⟩, ⟨_, rfl⟩, ⟨_, rfl⟩, ⟨_, rfl⟩, ⟨_, rfl⟩, ⟨_, rfl⟩, ⟨_, rfl⟩, S0⟩
  case round =>
    clear S0
    obtain ⟨k, hkn, rfl, ⟨p5, rfl⟩, ⟨p6, rfl⟩, ⟨p7, rfl⟩, ⟨p8, rfl⟩, ⟨p9, rfl⟩, ⟨p10, rfl⟩, ⟨p11, rfl⟩, ⟨p13, rfl⟩, SE⟩ := hrel
    have LT : (its.take k).length ≤ 1000 := by rw [List.length_take]; omega
    by_cases hlt : k < n
    · have hkl : k < its.length := by rw [← HN.out]; exact hlt
      have d1 : (k : Int) < (n : Int) := by omega
      have d2 : (0 : Int) ≤ (k : Int) := by omega
      have TW := TT.out _ _ SE.out
      obtain ⟨v, AI⟩ := SE.out
      have RR := AI.rd HR.out
      obtain ⟨g, off, rfl, hg, c0⟩ := any_at RR (k := k) (by rw [List.length_map]; exact hkl)
      rw [List.getElem_map] at c0
      have NI := HI.out its[k] (List.getElem_mem hkl)
      have TK : Hid (its.take (k + 1) = its.take k ++ [its[k]]) := Lib.hid (List.take_succ_eq_append_getElem hkl)
      generalize its[k] = i at *
      have c1 : wr.cell? ⟨g, off + k, none⟩ = some (.iface 3 (.int .i64 (i : Int))) := c0
      clear c0
      have IT : Hid (∀ u, Below wr.heap.size wr u → Calls Tryz.prog 113 #[.int .i64 (i : Int)] u fun e w' => e = .returned (.string (mkB (Dg.dec i))) ∧ Below u.heap.size u w') := Lib.hid (fun u hu => itoa_any i u (by omega) (TW.keep hu))
      obtain ⟨A9, n9, c9, hv⟩ : ∃ A9 n9 c9, v = .slice A9 n9 c9 := by obtain ⟨a, b, e, -⟩ := own_slG AI.own; exact ⟨_, _, _, e⟩
      have HA := Lib.hid AI
      have bz : B ≤ wr.heap.size := Nat.le_trans hB AI.size
      clear SE AI RR TW hg NI
      subst hv
      have a3 := fun u => as_3_3 (.int .i64 (i : Int)) u
      go_wp2_with fail
      clear a3 c1
      have HC := Lib.hid (HA.out.call (Below.drew (Below.refl wr.heap.size wr)))
      have BC := Lib.hid (Below.drew (Below.refl wr.heap.size wr))
      (refine wp_region_noPanic ?_; refine wp_region_held_drew (S := (fun _ => True)) (by kernel_rfl) ?_ (fun hHeld => ?_); exact trivial)
      (refine tkW 0 ?_; try simp only [gmS])
      (refine tkW 1 ?_; try simp only [gmS])
      (refine tkW 2 ?_; try simp only [gmS])
      (refine tkW 4 ?_; try simp only [gmS])
      (refine wpAnyH_ready (rs := [3, 5]) (by kernel_rfl) (by simp) ?_; refine AllReadyH.cons (o := _) rfl (fun K hK => ?_) (AllReadyH.cons (o := _) rfl (fun K hK => ?_) AllReadyH.nil))
      · have cb := load_block (i := 0) HC.out.box rfl
        go_simp
        clear cb
        (refine hK.out _ _ trivial (fun hHeld2 => ?_); clear hK K hHeld; have hHeld := hHeld2; clear hHeld2; try simp only [gmS])
        refine rdR 5 (fun K hK => ?_)
        go_simp
        (with_reducible refine (IT.out _ BC.out).mono ?_)
        rintro e y5 ⟨rfl, t5⟩
        have HC := Lib.hid (HC.out.call t5)
        have BC := Lib.hid (BC.out.trans (t5.mono BC.out.size))
        clear t5
        (refine hK.out _ _ trivial (fun hHeld2 => ?_); clear hK K hHeld; have hHeld := hHeld2; clear hHeld2; try simp only [gmS])
        refine rdR 6 (fun K hK => ?_)
        go_simp
        have HC := Lib.hid (HC.out.call ((Below.refl _ _).alloc (Nat.le_refl _) (.cells #[.string (mkB (Dg.dec i))] 9)))
        have BC := Lib.hid (BC.out.alloc BC.out.size (.cells #[.string (mkB (Dg.dec i))] 9))
        (refine hK.out _ _ trivial (fun hHeld2 => ?_); clear hK K hHeld; have hHeld := hHeld2; clear hHeld2; try simp only [gmS])
        refine rdR 7 (fun K hK => ?_)
        refine wp_appF (.tmp 27) (.tmp 30) 103 rfl Tryz.underlying103 info_strB rfl (by decide) B _ _ _ (some ⟨_, 0, none⟩) 1 1 (strsC [Dg.dec i]) (by intro u hu; simp [strsC] at hu; rw [hu]; rfl) rfl rfl HC.out.own (Rd.of_row (heap_alloc_new _ _) (List.prefix_refl _)) rfl (Nat.le_trans hB HC.out.size) (by simp only [List.length_append, List.length_map]; omega) (by simp only [List.length_append, List.length_map]; omega) ?_
        intro v' w' ho hg hq
        obtain ⟨A8, n8, c8, rfl⟩ : ∃ A8 n8 c8, v' = .slice A8 n8 c8 := by obtain ⟨x, y, e, -⟩ := own_slG ho; exact ⟨_, _, _, e⟩
        have bx := (hg.block b (lt_of_block HC.out.box) (fun e => HC.out.ne e.symm)).trans HC.out.box
        have HC := Lib.hid (HC.out.app (news := [Dg.dec i]) ho hg hq)
        have BXX := Lib.hid bx
        clear bx ho hg hq
        (refine hK.out _ _ trivial (fun hHeld2 => ?_); clear hK K hHeld; have hHeld := hHeld2; clear hHeld2; try simp only [gmS])
        (refine tkW 8 ?_; try simp only [gmS])
        refine rdR 9 (fun K hK => ?_)
        have cb := load_block (i := 0) BXX.out rfl
        have fb := free_blk BXX.out 0
        go_simp
        clear cb fb
        (refine hK.out _ _ trivial (fun hHeld2 => ?_); clear hK K hHeld; have hHeld := hHeld2; clear hHeld2; try simp only [gmS])
        (refine wpAnyH_done (by kernel_rfl) ?_ _; refine NoPanic.normal ?_)
        rw [List.append_assoc, ← List.map_singleton (f := Dg.dec), ← List.map_append, ← TK.out] at HC
        go_wp2_with fail
        exact ⟨⟨k + 1, by omega, by go_num, ⟨_, rfl⟩, ⟨_, rfl⟩, ⟨_, rfl⟩, ⟨_, rfl⟩, ⟨_, rfl⟩, ⟨_, rfl⟩, ⟨_, rfl⟩, ⟨_, rfl⟩, Lib.hid ⟨_, HC.out⟩⟩, by simp [intOf]; omega⟩
      · go_simp
        (with_reducible refine (IT.out _ BC.out).mono ?_)
        rintro e y5 ⟨rfl, t5⟩
        have HC := Lib.hid (HC.out.call t5)
        have BC := Lib.hid (BC.out.trans (t5.mono BC.out.size))
        clear t5
        (refine hK.out _ _ trivial (fun hHeld2 => ?_); clear hK K hHeld; have hHeld := hHeld2; clear hHeld2; try simp only [gmS])
        (refine wpAnyH_ready (rs := [3, 6]) (by kernel_rfl) (by simp) ?_; refine AllReadyH.cons (o := _) rfl (fun K hK => ?_) (AllReadyH.cons (o := _) rfl (fun K hK => ?_) AllReadyH.nil))
        · have cb := load_block (i := 0) HC.out.box rfl
          go_simp
          clear cb
          (refine hK.out _ _ trivial (fun hHeld2 => ?_); clear hK K hHeld; have hHeld := hHeld2; clear hHeld2; try simp only [gmS])
          refine rdR 6 (fun K hK => ?_)
          go_simp
          have HC := Lib.hid (HC.out.call ((Below.refl _ _).alloc (Nat.le_refl _) (.cells #[.string (mkB (Dg.dec i))] 9)))
          have BC := Lib.hid (BC.out.alloc BC.out.size (.cells #[.string (mkB (Dg.dec i))] 9))
          (refine hK.out _ _ trivial (fun hHeld2 => ?_); clear hK K hHeld; have hHeld := hHeld2; clear hHeld2; try simp only [gmS])
          refine rdR 7 (fun K hK => ?_)
          refine wp_appF (.tmp 27) (.tmp 30) 103 rfl Tryz.underlying103 info_strB rfl (by decide) B _ _ _ (some ⟨_, 0, none⟩) 1 1 (strsC [Dg.dec i]) (by intro u hu; simp [strsC] at hu; rw [hu]; rfl) rfl rfl HC.out.own (Rd.of_row (heap_alloc_new _ _) (List.prefix_refl _)) rfl (Nat.le_trans hB HC.out.size) (by simp only [List.length_append, List.length_map]; omega) (by simp only [List.length_append, List.length_map]; omega) ?_
          intro v' w' ho hg hq
          obtain ⟨A8, n8, c8, rfl⟩ : ∃ A8 n8 c8, v' = .slice A8 n8 c8 := by obtain ⟨x, y, e, -⟩ := own_slG ho; exact ⟨_, _, _, e⟩
          have bx := (hg.block b (lt_of_block HC.out.box) (fun e => HC.out.ne e.symm)).trans HC.out.box
          have HC := Lib.hid (HC.out.app (news := [Dg.dec i]) ho hg hq)
          have BXX := Lib.hid bx
          clear bx ho hg hq
          (refine hK.out _ _ trivial (fun hHeld2 => ?_); clear hK K hHeld; have hHeld := hHeld2; clear hHeld2; try simp only [gmS])
          (refine tkW 8 ?_; try simp only [gmS])
          refine rdR 9 (fun K hK => ?_)
          have cb := load_block (i := 0) BXX.out rfl
          have fb := free_blk BXX.out 0
          go_simp
          clear cb fb
          (refine hK.out _ _ trivial (fun hHeld2 => ?_); clear hK K hHeld; have hHeld := hHeld2; clear hHeld2; try simp only [gmS])
          (refine wpAnyH_done (by kernel_rfl) ?_ _; refine NoPanic.normal ?_)
          rw [List.append_assoc, ← List.map_singleton (f := Dg.dec), ← List.map_append, ← TK.out] at HC
          go_wp2_with fail
          exact ⟨⟨k + 1, by omega, by go_num, ⟨_, rfl⟩, ⟨_, rfl⟩, ⟨_, rfl⟩, ⟨_, rfl⟩, ⟨_, rfl⟩, ⟨_, rfl⟩, ⟨_, rfl⟩, ⟨_, rfl⟩, Lib.hid ⟨_, HC.out⟩⟩, by simp [intOf]; omega⟩
        · go_simp
          have HC := Lib.hid (HC.out.call ((Below.refl _ _).alloc (Nat.le_refl _) (.cells #[.string (mkB (Dg.dec i))] 9)))
          have BC := Lib.hid (BC.out.alloc BC.out.size (.cells #[.string (mkB (Dg.dec i))] 9))
          (refine hK.out _ _ trivial (fun hHeld2 => ?_); clear hK K hHeld; have hHeld := hHeld2; clear hHeld2; try simp only [gmS])
          refine rdR 3 (fun K hK => ?_)
          have cb := load_block (i := 0) HC.out.box rfl
          go_simp
          clear cb
          (refine hK.out _ _ trivial (fun hHeld2 => ?_); clear hK K hHeld; have hHeld := hHeld2; clear hHeld2; try simp only [gmS])
          refine rdR 7 (fun K hK => ?_)
          refine wp_appF (.tmp 27) (.tmp 30) 103 rfl Tryz.underlying103 info_strB rfl (by decide) B _ _ _ (some ⟨_, 0, none⟩) 1 1 (strsC [Dg.dec i]) (by intro u hu; simp [strsC] at hu; rw [hu]; rfl) rfl rfl HC.out.own (Rd.of_row (heap_alloc_new _ _) (List.prefix_refl _)) rfl (Nat.le_trans hB HC.out.size) (by simp only [List.length_append, List.length_map]; omega) (by simp only [List.length_append, List.length_map]; omega) ?_
          intro v' w' ho hg hq
          obtain ⟨A8, n8, c8, rfl⟩ : ∃ A8 n8 c8, v' = .slice A8 n8 c8 := by obtain ⟨x, y, e, -⟩ := own_slG ho; exact ⟨_, _, _, e⟩
          have bx := (hg.block b (lt_of_block HC.out.box) (fun e => HC.out.ne e.symm)).trans HC.out.box
          have HC := Lib.hid (HC.out.app (news := [Dg.dec i]) ho hg hq)
          have BXX := Lib.hid bx
          clear bx ho hg hq
          (refine hK.out _ _ trivial (fun hHeld2 => ?_); clear hK K hHeld; have hHeld := hHeld2; clear hHeld2; try simp only [gmS])
          (refine tkW 8 ?_; try simp only [gmS])
          refine rdR 9 (fun K hK => ?_)
          have cb := load_block (i := 0) BXX.out rfl
          have fb := free_blk BXX.out 0
          go_simp
          clear cb fb
          (refine hK.out _ _ trivial (fun hHeld2 => ?_); clear hK K hHeld; have hHeld := hHeld2; clear hHeld2; try simp only [gmS])
          (refine wpAnyH_done (by kernel_rfl) ?_ _; refine NoPanic.normal ?_)
          rw [List.append_assoc, ← List.map_singleton (f := Dg.dec), ← List.map_append, ← TK.out] at HC
          go_wp2_with fail
          exact ⟨⟨k + 1, by omega, by go_num, ⟨_, rfl⟩, ⟨_, rfl⟩, ⟨_, rfl⟩, ⟨_, rfl⟩, ⟨_, rfl⟩, ⟨_, rfl⟩, ⟨_, rfl⟩, ⟨_, rfl⟩, Lib.hid ⟨_, HC.out⟩⟩, by simp [intOf]; omega⟩
    · have d1 : ¬ (k : Int) < (n : Int) := by omega
      have TE : Hid (its.take k = its) := Lib.hid (List.take_of_length_le (by rw [← HN.out]; omega))
      rw [TE.out] at SE
      go_wp2_with fail
      refine bodyPost_end (results_none (by rfl) _ _ _) rfl ?_
      exact ⟨rfl, SE.out⟩
theorem add_one {b B : Nat} {w0 u : World} {o0 : Option Nat} {v : Value} {l : List Tx} (h : AddI b B w0 o0 v l u) (i : Nat) (hi : i ≤ 1000000000) (hB : B ≤ w0.heap.size) (hl : l.length ≤ 1000000000) (htb : ∀ o, ∀ x, AddE b B w0 o0 o x → Tab x) :
    Calls Tryz.prog 111 #[.pointer (some ⟨b, 0, none⟩), .slice (some ⟨u.heap.size, 0, none⟩) 1 1] (u.alloc (.cells #[.iface 3 (.int .i64 (i : Int))] 20)) fun e w' => e = .returned (.tuple #[]) ∧ AddE b B w0 o0 (l ++ [Dg.dec i]) w' := by
  have h2 := h.call ((Below.refl u.heap.size u).alloc (Nat.le_refl _) (.cells #[.iface 3 (.int .i64 (i : Int))] 20))
  have bz : B ≤ u.heap.size := Nat.le_trans hB h.size
  refine (addn_any b B v l [i] (some ⟨u.heap.size, 0, none⟩) 1 1 _ rfl (by decide) (by simp; omega) hl (AddI.start h2.box h2.own h2.ne) ?_ (fun j hj => by rw [List.mem_singleton.1 hj]; exact hi) (htb _ _ ⟨_, h2⟩) (fun o x hx => htb o x (h2.trans hx))).mono ?_
  · intro _
    refine ⟨u.heap.size, 0, rfl, by simp, ?_, ?_, fun j q hq => ?_⟩
    · have := lt_of_block h.box; omega
    · intro e
      have := (h.own.lt _ e).2
      omega
    · have := cell_of_row _ u.heap.size (0 + j) _ _ _ (heap_alloc_new u (.cells #[.iface 3 (.int .i64 (i : Int))] 20))
      rw [this, Nat.zero_add]
      simpa [itV] using hq
  · rintro e w' ⟨rfl, hx⟩
    exact ⟨rfl, h2.trans hx⟩
theorem grown_map {w w' : World} {o : Obj} (h : (w.alloc o).grownBy w' (some w.heap.size)) : Below w.heap.size w w' :=
  ⟨h.os, h.tape, h.output, Nat.le_trans (by simp) h.size, fun k hk => (h.block k (by simp; omega) (by intro e; injection e with e; omega)).trans (alloc_old _ _ hk)⟩
end Go.Proofs.YtniklmikdkjgiaaGreatDoor
namespace Go.Proofs.YtniklmikdkjgiaaGreatDoor
open Go.RowKit
theorem itF_len (w : World) (b : Nat) (o : Option Nat) : ∀ its : List It, (∀ t ∈ its, itOk w b o t) → (its.flatMap itF).length ≤ its.length * 1000001
  | [], _ => by simp
  | t :: its, h => by
    have ih := itF_len w b o its (fun x hx => h x (by simp [hx]))
    have h1 := h t (by simp)
    have : (itF t).length ≤ 1000001 := by
      cases t with
      | n i => simp [itF]
      | s x => simp [itF]
      | b x => simp [itF]
      | l A c xs => have := h1.1; simp [itF]; omega
    rw [List.flatMap_cons, List.length_append, List.length_cons]; omega
theorem append_ty {P : Program} {t tx e : TypeId} (ht : P.underlying t = some (.slice e)) (htx : P.underlying tx = some (.slice e)) (ty : TypeId) (A0 : Option Addr) (n0 c0 : Nat) (A : Option Addr) (m c : Nat) (w : World) :
    (Builtin.append_ #[t, tx] ty #[.slice A0 n0 c0, .slice A m c]).run P w = (Builtin.append_ #[t, t] ty #[.slice A0 n0 c0, .slice A m c]).run P w := by
  simp [Builtin.append_, run_underlying ht, run_underlying htx]
theorem wp_appF2 {P : Program} {o : Oper} {a : Act} {K : Act → World → Prop} {Q : Exit → Act → World → Prop} {w : World} (s x : Operand) (t tx : TypeId)
    (ho : o.op = .call { callee := .builtin .append, args := #[s, x], argTypes := #[t, tx] }) {e : TypeId} {z : Value} {size bytes : Nat}
    (ht : P.underlying t = some (.slice e)) (htx : P.underlying tx = some (.slice e)) (hinfo : (P.info? e).map (fun i => (i.zero, i.size, i.bytes)) = some (some z, size, bytes)) (hzs : z.cells.size = size) (hsz : 0 < size)
    (base : Nat) (v : Value) (n : Nat) (xs : List Value) (A : Option Addr) (m c : Nat) (news : List Value) (h1 : ∀ u ∈ news, u.oneCell' = true)
    (hs : a.eval s = v) (hx : a.eval x = .slice A m c) (hown : w.ownsRow base e size v n xs) (hr : Rd w A news) (hm : news.length = m * size) (hb : base ≤ w.heap.size)
    (hbytes : (n + m) * bytes ≤ 140737488355328) (hmax : n + m ≤ 9223372036854775807)
    (h : ∀ v' w', w'.ownsRow base e size v' (n + m) (xs ++ news) → w.grownBy w' v.ownBlock → (v'.ownBlock = v.ownBlock ∨ v'.ownBlock = some w.heap.size) → K (a.put o.dst v') w') : Oper.wp P o a w K Q := by
  obtain ⟨i, hi, hz, hsi, hby⟩ := info_parts hinfo
  have fin : ∀ v' w', (Builtin.append_ #[t, t] o.type #[v, .slice A m c]).run P w = .ok v' w' → w'.ownsRow base e size v' (n + m) (xs ++ news) → w.grownBy w' v.ownBlock → (v'.ownBlock = v.ownBlock ∨ v'.ownBlock = some w.heap.size) → Oper.wp P o a w K Q := by
    intro v' w' hrun ho' hg hq
    have hK := h v' w' ho' hg hq
    unfold Oper.wp execOp
    obtain ⟨A0, n0, c0, rfl⟩ : ∃ A0 n0 c0, v = .slice A0 n0 c0 := by obtain ⟨x, y, e, -⟩ := own_slG hown; exact ⟨_, _, _, e⟩
    have hrun := (append_ty ht htx o.type A0 n0 c0 A m c w).trans hrun
    simp only [ho, resolve, invoke, builtin, Sem.run_bind, Sem.run_pure, Result.andThen_ok, List.map_toArray, List.map_cons, List.map_nil, hs, hx, hrun]
    exact hK
  cases A with
  | none =>
    have h0 : m = 0 := by
      rcases Nat.eq_zero_or_pos m with h0 | h0
      · exact h0
      · obtain ⟨b, off, e, _⟩ := hr (by rw [hm]; exact Nat.mul_pos h0 hsz); cases e
    have hn0 : news = [] := List.eq_nil_of_length_eq_zero (by rw [hm, h0]; simp)
    subst h0 hn0
    exact fin v w (run_append_none_ w ht hi hown c) (by simpa using hown) (World.grownBy.refl _ _) (.inl rfl)
  | some ad =>
    obtain ⟨v', w', h2, h3, h4, -, h5⟩ := run_append_own_at (P := P) w base t o.type e i z size bytes ht hi hz hsi hby hzs hsz v n xs hown ad m c news hm (fun j u hu => by
      have hj := (List.getElem?_eq_some_iff.1 hu).1
      obtain ⟨b, off, e, _, hc⟩ := hr (by omega)
      injection e with e
      subst e
      rw [Addr.add_lit]
      exact hc j u hu) h1 (by simpa [maxLen] using hmax) hbytes hb
    exact fin v' w' h2 h3 h4 h5
theorem wpList_appF2 {P : Program} {ops : Array Oper} {rest : List Oper} {o : Oper} {a : Act} {Q : Exit → Act → World → Prop} {w : World} (hgd : o.guard = none) (s x : Operand) (t tx : TypeId)
    (ho : o.op = .call { callee := .builtin .append, args := #[s, x], argTypes := #[t, tx] }) {e : TypeId} {z : Value} {size bytes : Nat}
    (ht : P.underlying t = some (.slice e)) (htx : P.underlying tx = some (.slice e)) (hinfo : (P.info? e).map (fun i => (i.zero, i.size, i.bytes)) = some (some z, size, bytes)) (hzs : z.cells.size = size) (hsz : 0 < size)
    (base : Nat) (v : Value) (n : Nat) (xs : List Value) (A : Option Addr) (m c : Nat) (news : List Value) (h1 : ∀ u ∈ news, u.oneCell' = true)
    (hs : a.eval s = v) (hx : a.eval x = .slice A m c) (hown : w.ownsRow base e size v n xs) (hr : Rd w A news) (hm : news.length = m * size) (hb : base ≤ w.heap.size)
    (hbytes : (n + m) * bytes ≤ 140737488355328) (hmax : n + m ≤ 9223372036854775807)
    (h : ∀ v' w', w'.ownsRow base e size v' (n + m) (xs ++ news) → w.grownBy w' v.ownBlock → (v'.ownBlock = v.ownBlock ∨ v'.ownBlock = some w.heap.size) → wpList P ops Q rest (a.put o.dst v') w') : wpList P ops Q (o :: rest) a w :=
  wpList_plain hgd fun _ hK => wp_appF2 s x t tx ho ht htx hinfo hzs hsz base v n xs A m c news h1 hs hx hown hr hm hb hbytes hmax fun v' w' h2 h3 h4 => hK _ _ (h v' w' h2 h3 h4)
theorem add_any (b B : Nat) (v0 : Value) (l0 : List Tx) (its : List It) (A : Option Addr) (n c : Nat) (w : World) (hn : n = its.length) (hl : n ≤ 100) (hB : B ≤ w.heap.size) (hL : l0.length ≤ 100000)
    (h0 : AddI b B w v0.ownBlock v0 l0 w) (hr : Rd2 w b v0.ownBlock A (its.map itV)) (hi : ∀ i ∈ its, itOk w b v0.ownBlock i) (htb : ∀ o, ∀ u, AddE b B w v0.ownBlock o u → Tab u) :
    Calls Tryz.prog 111 #[.pointer (some ⟨b, 0, none⟩), .slice A n c] w fun e w' => e = .returned (.tuple #[]) ∧ AddE b B w v0.ownBlock (l0 ++ its.flatMap itF) w' := by
  have HR := Lib.hid hr
  have HN := Lib.hid hn
  have HI := Lib.hid hi
  have TT := Lib.hid htb
  have LL := Lib.hid (itF_len w b v0.ownBlock)
  have S0 : Hid (AddE b B w v0.ownBlock (l0 ++ (its.take 0).flatMap itF) w) := Lib.hid (by rw [List.take_zero, List.flatMap_nil, List.append_nil]; exact ⟨v0, h0⟩)
  clear hr hn hi htb h0
  go_enter Tryz.func111, Tryz.ntmps111
  go_wp2_with fail
  go_loopw [5, 6, 7, 8, 9, 10, 11, 13, 16] (fun s5 s6 s7 s8 s9 s10 s11 s13 s16 wr => ∃ k : Nat, k ≤ n ∧ s16 = .int .i64 (k : Int) ∧ (∃ p, s5 = p) ∧ (∃ p, s6 = p) ∧ (∃ p, s7 = p) ∧ (∃ p, s8 = p) ∧ (∃ p, s9 = p) ∧ (∃ p, s10 = p) ∧ (∃ p, s11 = p) ∧ (∃ p, s13 = p) ∧ Hid (AddE b B w v0.ownBlock (l0 ++ (its.take k).flatMap itF) wr)) (fun _ _ _ _ _ _ _ _ i _ => n - (intOf i).toNat)
  case atStart => exact ⟨0, Nat.zero_le _, rfl, ⟨_, rfl⟩, ⟨_, rfl⟩, ⟨_, rfl⟩, ⟨_, rfl⟩, ⟨_, rfl⟩, ⟨_, rfl⟩, ⟨_, rfl⟩, ⟨_, rfl⟩, S0⟩
  case round =>
    clear S0
    obtain ⟨k, hkn, rfl, ⟨p5, rfl⟩, ⟨p6, rfl⟩, ⟨p7, rfl⟩, ⟨p8, rfl⟩, ⟨p9, rfl⟩, ⟨p10, rfl⟩, ⟨p11, rfl⟩, ⟨p13, rfl⟩, SE⟩ := hrel
    by_cases hlt : k < n
    · have hkl : k < its.length := by rw [← HN.out]; exact hlt
      have d1 : (k : Int) < (n : Int) := by omega
      have d2 : (0 : Int) ≤ (k : Int) := by omega
      have LT : ((its.take k).flatMap itF).length ≤ 100 * 1000001 := by
        refine Nat.le_trans (LL.out (its.take k) (fun t ht => HI.out t (List.mem_of_mem_take ht))) ?_
        refine Nat.mul_le_mul_right _ ?_
        rw [List.length_take]; omega
      have TW := TT.out _ _ SE.out
      obtain ⟨v, AI⟩ := SE.out
      have RR := AI.rd HR.out
      obtain ⟨g, off, rfl, hg, c0⟩ := any_at RR (k := k) (by rw [List.length_map]; exact hkl)
      rw [List.getElem_map] at c0
      have NI := HI.out its[k] (List.getElem_mem hkl)
      have TK : Hid ((its.take (k + 1)).flatMap itF = (its.take k).flatMap itF ++ itF its[k]) := Lib.hid (by rw [List.take_succ_eq_append_getElem hkl, List.flatMap_append, List.flatMap_singleton])
      generalize its[k] = it at *
      generalize (its.take k).flatMap itF = G at *
      obtain ⟨A9, n9, c9, hv⟩ : ∃ A9 n9 c9, v = .slice A9 n9 c9 := by obtain ⟨a, b, e, -⟩ := own_slG AI.own; exact ⟨_, _, _, e⟩
      have HA := Lib.hid AI
      have HT := Lib.hid TW
      have bz : B ≤ wr.heap.size := Nat.le_trans hB AI.size
      have nx : Hid (∀ F, AddE b B w v0.ownBlock (l0 ++ G ++ itF it) F → AddE b B w v0.ownBlock (l0 ++ (its.take (k + 1)).flatMap itF) F) := Lib.hid (fun F h => by rw [TK.out, ← List.append_assoc]; exact h)
      clear SE AI RR TW hg
      subst hv
      cases it with
      | n i =>
        have c1 : wr.cell? ⟨g, off + k, none⟩ = some (.iface 3 (.int .i64 (i : Int))) := c0
        have NI2 : i ≤ 1000000000 := NI
        have IT : Hid (∀ u, Below wr.heap.size wr u → Calls Tryz.prog 113 #[.int .i64 (i : Int)] u fun e w' => e = .returned (.string (mkB (Dg.dec i))) ∧ Below u.heap.size u w') := Lib.hid (fun u hu => itoa_any i u (by omega) (HT.out.keep hu))
        have a3 := fun u => as_3_3 (.int .i64 (i : Int)) u
        clear c0 NI NI2
        go_wp2_with fail
        clear a3 c1
        have HC := Lib.hid (HA.out.call (Below.drew (Below.refl wr.heap.size wr)))
        have BC := Lib.hid (Below.drew (Below.refl wr.heap.size wr))
        (refine wp_region_noPanic ?_; refine wp_region_held_drew (S := (fun _ => True)) (by kernel_rfl) ?_ (fun hHeld => ?_); exact trivial)
        (refine tkW 0 ?_; try simp only [gmS])
        (refine tkW 1 ?_; try simp only [gmS])
        (refine tkW 2 ?_; try simp only [gmS])
        (refine tkW 4 ?_; try simp only [gmS])
        (refine wpAnyH_ready (rs := [3, 5]) (by kernel_rfl) (by simp) ?_; refine AllReadyH.cons (o := _) rfl (fun K hK => ?_) (AllReadyH.cons (o := _) rfl (fun K hK => ?_) AllReadyH.nil))
        · have cb := load_block (i := 0) HC.out.box rfl
          go_simp
          clear cb
          (refine hK.out _ _ trivial (fun hHeld2 => ?_); clear hK K hHeld; have hHeld := hHeld2; clear hHeld2; try simp only [gmS])
          refine rdR 5 (fun K hK => ?_)
          go_simp
          (with_reducible refine (IT.out _ BC.out).mono ?_)
          rintro e y5 ⟨rfl, t5⟩
          have HC := Lib.hid (HC.out.call t5)
          have BC := Lib.hid (BC.out.trans (t5.mono BC.out.size))
          clear t5
          (refine hK.out _ _ trivial (fun hHeld2 => ?_); clear hK K hHeld; have hHeld := hHeld2; clear hHeld2; try simp only [gmS])
          refine rdR 6 (fun K hK => ?_)
          go_simp
          have HC := Lib.hid (HC.out.call ((Below.refl _ _).alloc (Nat.le_refl _) (.cells #[.string (mkB (Dg.dec i))] 9)))
          have BC := Lib.hid (BC.out.alloc BC.out.size (.cells #[.string (mkB (Dg.dec i))] 9))
          (refine hK.out _ _ trivial (fun hHeld2 => ?_); clear hK K hHeld; have hHeld := hHeld2; clear hHeld2; try simp only [gmS])
          refine rdR 7 (fun K hK => ?_)
          refine wp_appF (.tmp 27) (.tmp 30) 103 rfl Tryz.underlying103 info_strB rfl (by decide) B _ _ _ (some ⟨_, 0, none⟩) 1 1 (strsC [Dg.dec i]) (by intro u hu; simp [strsC] at hu; rw [hu]; rfl) rfl rfl HC.out.own (Rd.of_row (heap_alloc_new _ _) (List.prefix_refl _)) rfl (Nat.le_trans hB HC.out.size) (by simp only [List.length_append]; omega) (by simp only [List.length_append]; omega) ?_
          intro v' w' ho hg hq
          obtain ⟨A8, n8, c8, rfl⟩ : ∃ A8 n8 c8, v' = .slice A8 n8 c8 := by obtain ⟨x, y, e, -⟩ := own_slG ho; exact ⟨_, _, _, e⟩
          have bx := (hg.block b (lt_of_block HC.out.box) (fun e => HC.out.ne e.symm)).trans HC.out.box
          have HC := Lib.hid (HC.out.app (news := [Dg.dec i]) ho hg hq)
          have BXX := Lib.hid bx
          clear bx ho hg hq
          (refine hK.out _ _ trivial (fun hHeld2 => ?_); clear hK K hHeld; have hHeld := hHeld2; clear hHeld2; try simp only [gmS])
          (refine tkW 8 ?_; try simp only [gmS])
          refine rdR 9 (fun K hK => ?_)
          have cb := load_block (i := 0) BXX.out rfl
          have fb := free_blk BXX.out 0
          go_simp
          clear cb fb
          (refine hK.out _ _ trivial (fun hHeld2 => ?_); clear hK K hHeld; have hHeld := hHeld2; clear hHeld2; try simp only [gmS])
          (refine wpAnyH_done (by kernel_rfl) ?_ _; refine NoPanic.normal ?_)
          go_wp2_with fail
          exact ⟨⟨k + 1, by omega, by go_num, ⟨_, rfl⟩, ⟨_, rfl⟩, ⟨_, rfl⟩, ⟨_, rfl⟩, ⟨_, rfl⟩, ⟨_, rfl⟩, ⟨_, rfl⟩, ⟨_, rfl⟩, Lib.hid (nx.out _ ⟨_, HC.out⟩)⟩, by simp [intOf]; omega⟩
        · go_simp
          (with_reducible refine (IT.out _ BC.out).mono ?_)
          rintro e y5 ⟨rfl, t5⟩
          have HC := Lib.hid (HC.out.call t5)
          have BC := Lib.hid (BC.out.trans (t5.mono BC.out.size))
          clear t5
          (refine hK.out _ _ trivial (fun hHeld2 => ?_); clear hK K hHeld; have hHeld := hHeld2; clear hHeld2; try simp only [gmS])
          (refine wpAnyH_ready (rs := [3, 6]) (by kernel_rfl) (by simp) ?_; refine AllReadyH.cons (o := _) rfl (fun K hK => ?_) (AllReadyH.cons (o := _) rfl (fun K hK => ?_) AllReadyH.nil))
          · have cb := load_block (i := 0) HC.out.box rfl
            go_simp
            clear cb
            (refine hK.out _ _ trivial (fun hHeld2 => ?_); clear hK K hHeld; have hHeld := hHeld2; clear hHeld2; try simp only [gmS])
            refine rdR 6 (fun K hK => ?_)
            go_simp
            have HC := Lib.hid (HC.out.call ((Below.refl _ _).alloc (Nat.le_refl _) (.cells #[.string (mkB (Dg.dec i))] 9)))
            have BC := Lib.hid (BC.out.alloc BC.out.size (.cells #[.string (mkB (Dg.dec i))] 9))
            (refine hK.out _ _ trivial (fun hHeld2 => ?_); clear hK K hHeld; have hHeld := hHeld2; clear hHeld2; try simp only [gmS])
            refine rdR 7 (fun K hK => ?_)
            refine wp_appF (.tmp 27) (.tmp 30) 103 rfl Tryz.underlying103 info_strB rfl (by decide) B _ _ _ (some ⟨_, 0, none⟩) 1 1 (strsC [Dg.dec i]) (by intro u hu; simp [strsC] at hu; rw [hu]; rfl) rfl rfl HC.out.own (Rd.of_row (heap_alloc_new _ _) (List.prefix_refl _)) rfl (Nat.le_trans hB HC.out.size) (by simp only [List.length_append]; omega) (by simp only [List.length_append]; omega) ?_
            intro v' w' ho hg hq
            obtain ⟨A8, n8, c8, rfl⟩ : ∃ A8 n8 c8, v' = .slice A8 n8 c8 := by obtain ⟨x, y, e, -⟩ := own_slG ho; exact ⟨_, _, _, e⟩
            have bx := (hg.block b (lt_of_block HC.out.box) (fun e => HC.out.ne e.symm)).trans HC.out.box
            have HC := Lib.hid (HC.out.app (news := [Dg.dec i]) ho hg hq)
            have BXX := Lib.hid bx
            clear bx ho hg hq
            (refine hK.out _ _ trivial (fun hHeld2 => ?_); clear hK K hHeld; have hHeld := hHeld2; clear hHeld2; try simp only [gmS])
            (refine tkW 8 ?_; try simp only [gmS])
            refine rdR 9 (fun K hK => ?_)
            have cb := load_block (i := 0) BXX.out rfl
            have fb := free_blk BXX.out 0
            go_simp
            clear cb fb
            (refine hK.out _ _ trivial (fun hHeld2 => ?_); clear hK K hHeld; have hHeld := hHeld2; clear hHeld2; try simp only [gmS])
            (refine wpAnyH_done (by kernel_rfl) ?_ _; refine NoPanic.normal ?_)
            go_wp2_with fail
            exact ⟨⟨k + 1, by omega, by go_num, ⟨_, rfl⟩, ⟨_, rfl⟩, ⟨_, rfl⟩, ⟨_, rfl⟩, ⟨_, rfl⟩, ⟨_, rfl⟩, ⟨_, rfl⟩, ⟨_, rfl⟩, Lib.hid (nx.out _ ⟨_, HC.out⟩)⟩, by simp [intOf]; omega⟩
          · go_simp
            have HC := Lib.hid (HC.out.call ((Below.refl _ _).alloc (Nat.le_refl _) (.cells #[.string (mkB (Dg.dec i))] 9)))
            have BC := Lib.hid (BC.out.alloc BC.out.size (.cells #[.string (mkB (Dg.dec i))] 9))
            (refine hK.out _ _ trivial (fun hHeld2 => ?_); clear hK K hHeld; have hHeld := hHeld2; clear hHeld2; try simp only [gmS])
            refine rdR 3 (fun K hK => ?_)
            have cb := load_block (i := 0) HC.out.box rfl
            go_simp
            clear cb
            (refine hK.out _ _ trivial (fun hHeld2 => ?_); clear hK K hHeld; have hHeld := hHeld2; clear hHeld2; try simp only [gmS])
            refine rdR 7 (fun K hK => ?_)
            refine wp_appF (.tmp 27) (.tmp 30) 103 rfl Tryz.underlying103 info_strB rfl (by decide) B _ _ _ (some ⟨_, 0, none⟩) 1 1 (strsC [Dg.dec i]) (by intro u hu; simp [strsC] at hu; rw [hu]; rfl) rfl rfl HC.out.own (Rd.of_row (heap_alloc_new _ _) (List.prefix_refl _)) rfl (Nat.le_trans hB HC.out.size) (by simp only [List.length_append]; omega) (by simp only [List.length_append]; omega) ?_
            intro v' w' ho hg hq
            obtain ⟨A8, n8, c8, rfl⟩ : ∃ A8 n8 c8, v' = .slice A8 n8 c8 := by obtain ⟨x, y, e, -⟩ := own_slG ho; exact ⟨_, _, _, e⟩
            have bx := (hg.block b (lt_of_block HC.out.box) (fun e => HC.out.ne e.symm)).trans HC.out.box
            have HC := Lib.hid (HC.out.app (news := [Dg.dec i]) ho hg hq)
            have BXX := Lib.hid bx
            clear bx ho hg hq
            (refine hK.out _ _ trivial (fun hHeld2 => ?_); clear hK K hHeld; have hHeld := hHeld2; clear hHeld2; try simp only [gmS])
            (refine tkW 8 ?_; try simp only [gmS])
            refine rdR 9 (fun K hK => ?_)
            have cb := load_block (i := 0) BXX.out rfl
            have fb := free_blk BXX.out 0
            go_simp
            clear cb fb
            (refine hK.out _ _ trivial (fun hHeld2 => ?_); clear hK K hHeld; have hHeld := hHeld2; clear hHeld2; try simp only [gmS])
            (refine wpAnyH_done (by kernel_rfl) ?_ _; refine NoPanic.normal ?_)
            go_wp2_with fail
            exact ⟨⟨k + 1, by omega, by go_num, ⟨_, rfl⟩, ⟨_, rfl⟩, ⟨_, rfl⟩, ⟨_, rfl⟩, ⟨_, rfl⟩, ⟨_, rfl⟩, ⟨_, rfl⟩, ⟨_, rfl⟩, Lib.hid (nx.out _ ⟨_, HC.out⟩)⟩, by simp [intOf]; omega⟩
      | s t =>
        have c1 : wr.cell? ⟨g, off + k, none⟩ = some (.iface 9 (.string (mkB t))) := c0
        have a3 := fun u => as_9_3 (.string (mkB t)) u
        have a9 := fun u => as_9_9 (.string (mkB t)) u
        have cb := load_block (i := 0) HA.out.box rfl
        have HL := Lib.hid (HA.out.call ((Below.refl wr.heap.size wr).alloc (Nat.le_refl _) (.cells #[.string (mkB t)] 9)))
        have gl : (l0 ++ G).length ≤ 200000000 := by rw [List.length_append]; omega
        clear c0
        go_wp2_with (at_builtin; refine wpList_appF rfl (.tmp 39) (.tmp 41) 103 rfl Tryz.underlying103 info_strB rfl (by decide) B _ _ _ (some ⟨wr.heap.size, 0, none⟩) 1 1 (strsC [t]) (by intro u hu; simp [strsC] at hu; rw [hu]; rfl) rfl rfl HL.out.own (Rd.of_row (heap_alloc_new wr _) (List.prefix_refl _)) rfl (Nat.le_trans hB HL.out.size) (by omega) (by omega) ?_; intro v' w' ho hg hq; obtain ⟨A8, n8, c8, rfl⟩ : ∃ A8 n8 c8, v' = .slice A8 n8 c8 := (by obtain ⟨x, y, e, -⟩ := own_slG ho; exact ⟨_, _, _, e⟩); have bx := (hg.block b (lt_of_block HL.out.box) (fun e => HL.out.ne e.symm)).trans HL.out.box; have cb2 := load_block (i := 0) bx rfl; have fb2 := free_blk bx 0)
        exact ⟨⟨k + 1, by omega, by go_num, ⟨_, rfl⟩, ⟨_, rfl⟩, ⟨_, rfl⟩, ⟨_, rfl⟩, ⟨_, rfl⟩, ⟨_, rfl⟩, ⟨_, rfl⟩, ⟨_, rfl⟩, Lib.hid (nx.out _ ⟨_, HL.out.app (news := [t]) ho hg hq⟩)⟩, by simp [intOf]; omega⟩
      | b x =>
        have c1 : wr.cell? ⟨g, off + k, none⟩ = some (.iface 4 (.bool x)) := c0
        have a3 := fun u => as_4_3 (.bool x) u
        have a9 := fun u => as_4_9 (.bool x) u
        have a4 := fun u => as_4_4 (.bool x) u
        clear c0
        have h2 : ∀ u : World, (Instr.makeMap 189 none).run Tryz.prog u = .ok (.map (some u.heap.size)) (u.alloc (.map #[] 0)) := fun u => run_makeMap _ _
        have KB := Maps.bool_keyed (P := Tryz.prog) Tryz.underlying4
        obtain ⟨w1, U1, U2, U3⟩ := (MapAt.made wr Tryz.prog 4).upd KB Tryz.underlying189 (by decide) (show keyOf Tryz.prog 4 (.bool true) = some (.bool true) by kernel_rfl) (.int .i64 1)
        obtain ⟨iz, hiz, hzz, -⟩ := info_parts info_int
        have ZI : ∀ u : World, (zeroValue 3).run Tryz.prog u = .ok (.int .i64 0) u := fun u => by simp [zeroValue, typeInfo, hiz, hzz]
        have LK := U2.look KB Tryz.underlying189 (ZI w1) (show keyOf Tryz.prog 4 (.bool x) = some (.bool x) by cases x <;> kernel_rfl)
        have LV : ((updM (fun _ => none) (.bool true) (.int .i64 1)) (.bool x)).getD (.int .i64 0) = .int .i64 (((if x then 1 else 0 : Nat)) : Int) := by cases x <;> rfl
        rw [LV] at LK
        clear LV ZI hiz hzz U2
        have H1 := Lib.hid (HA.out.call (grown_map U3))
        have gl : (l0 ++ G).length ≤ 1000000000 := by rw [List.length_append]; omega
        cases x
        · have LK : (Instr.lookup 189 (.map (some wr.heap.size)) (.bool false) false).run Tryz.prog w1 = .ok (.int .i64 0) w1 := LK
          have AO0 := add_one H1.out 0 (by decide) hB gl TT.out
          rw [show ((0 : Nat) : Int) = 0 from rfl] at AO0
          have AO := Lib.hid AO0
          clear AO0
          go_wp2_with fail
          (with_reducible refine AO.out.mono ?_)
          rintro e w2 ⟨rfl, hx⟩
          have HX := Lib.hid hx
          clear hx AO H1
          go_wp2_with fail
          exact ⟨⟨k + 1, by omega, by go_num, ⟨_, rfl⟩, ⟨_, rfl⟩, ⟨_, rfl⟩, ⟨_, rfl⟩, ⟨_, rfl⟩, ⟨_, rfl⟩, ⟨_, rfl⟩, ⟨_, rfl⟩, Lib.hid (nx.out _ HX.out)⟩, by simp [intOf]; omega⟩
        · have LK : (Instr.lookup 189 (.map (some wr.heap.size)) (.bool true) false).run Tryz.prog w1 = .ok (.int .i64 1) w1 := LK
          have AO0 := add_one H1.out 1 (by decide) hB gl TT.out
          rw [show ((1 : Nat) : Int) = 1 from rfl] at AO0
          have AO := Lib.hid AO0
          clear AO0
          go_wp2_with fail
          (with_reducible refine AO.out.mono ?_)
          rintro e w2 ⟨rfl, hx⟩
          have HX := Lib.hid hx
          clear hx AO H1
          go_wp2_with fail
          exact ⟨⟨k + 1, by omega, by go_num, ⟨_, rfl⟩, ⟨_, rfl⟩, ⟨_, rfl⟩, ⟨_, rfl⟩, ⟨_, rfl⟩, ⟨_, rfl⟩, ⟨_, rfl⟩, ⟨_, rfl⟩, Lib.hid (nx.out _ HX.out)⟩, by simp [intOf]; omega⟩
      | l Ax cx xs =>
        have c1 : wr.cell? ⟨g, off + k, none⟩ = some (.iface 35 (.slice Ax xs.length cx)) := c0
        have a3 := fun u => as_35_3 (.slice Ax xs.length cx) u
        have a9 := fun u => as_35_9 (.slice Ax xs.length cx) u
        have a4 := fun u => as_35_4 (.slice Ax xs.length cx) u
        have a5 := fun u => as_35_35 (.slice Ax xs.length cx) u
        obtain ⟨nl, nr⟩ := NI
        have NR := Lib.hid nr
        have gl : (l0 ++ G).length ≤ 1000000000 := by rw [List.length_append]; omega
        have AO := Lib.hid (add_one HA.out xs.length (by omega) hB gl TT.out)
        have OC : Hid (∀ u ∈ strsC xs, u.oneCell' = true) := Lib.hid (strs_one xs)
        have LX : Hid ((strsC xs).length = xs.length * 1) := Lib.hid (by simp [strsC])
        clear c0 nr
        obtain ⟨m, hm⟩ : ∃ m, xs.length = m := ⟨_, rfl⟩
        have HM := Lib.hid hm
        simp only [hm] at c1 a3 a9 a4 a5 AO nl LX
        clear hm
        go_wp2_with fail
        (with_reducible refine AO.out.mono ?_)
        rintro e w2 ⟨rfl, hx⟩
        obtain ⟨v2, A2⟩ := hx
        have RX := A2.rd NR.out
        obtain ⟨A8, n8, c8, hv8⟩ : ∃ A8 n8 c8, v2 = .slice A8 n8 c8 := (by obtain ⟨x, y, e, -⟩ := own_slG A2.own; exact ⟨_, _, _, e⟩)
        subst hv8
        have cb := load_block (i := 0) A2.box rfl
        have HX := Lib.hid A2
        have gl2 : (l0 ++ G ++ [Dg.dec m]).length ≤ 1000000001 := by rw [List.length_append]; simp; omega
        clear AO A2 a3 a9 a4 a5 c1
        go_wp2_with (at_builtin; go_loud (refine wpList_appF2 rfl (.tmp 67) (.tmp 68) 103 35 rfl Tryz.underlying103 Tryz.underlying35 info_strB rfl (by decide) B _ _ _ Ax m cx (strsC xs) OC.out rfl rfl HX.out.own RX LX.out (Nat.le_trans hB HX.out.size) (by omega) (by omega) ?_); intro v' w' ho hg hq; obtain ⟨A7, n7, c7, rfl⟩ : ∃ A7 n7 c7, v' = .slice A7 n7 c7 := (by obtain ⟨x, y, e, -⟩ := own_slG ho; exact ⟨_, _, _, e⟩); have bx := (hg.block b (lt_of_block HX.out.box) (fun e => HX.out.ne e.symm)).trans HX.out.box; have cb2 := load_block (i := 0) bx rfl; have fb2 := free_blk bx 0)
        have HF := HX.out.app (news := xs) (by rw [HM.out]; exact ho) hg hq
        rw [List.append_assoc] at HF
        exact ⟨⟨k + 1, by omega, by go_num, ⟨_, rfl⟩, ⟨_, rfl⟩, ⟨_, rfl⟩, ⟨_, rfl⟩, ⟨_, rfl⟩, ⟨_, rfl⟩, ⟨_, rfl⟩, ⟨_, rfl⟩, Lib.hid (nx.out _ ⟨_, by rw [show itF (It.l Ax cx xs) = [Dg.dec m] ++ xs by rw [← HM.out]; rfl]; exact HF⟩)⟩, by simp [intOf]; omega⟩
    · have d1 : ¬ (k : Int) < (n : Int) := by omega
      have TE : Hid (its.take k = its) := Lib.hid (List.take_of_length_le (by rw [← HN.out]; omega))
      rw [TE.out] at SE
      go_wp2_with fail
      refine bodyPost_end (results_none (by rfl) _ _ _) rfl ?_
      exact ⟨rfl, SE.out⟩
end Go.Proofs.YtniklmikdkjgiaaGreatDoor
namespace Go.Proofs.YtniklmikdkjgiaaGreatDoor
open Go.RowKit
theorem BS.wbyte {b : Nat} {u1 u : World} {t : Tx} (h : BS b u1 t u) (hl : t.length ≤ 1000000000) :
    Calls Tryz.prog 114 #[.pointer (some ⟨b, 0, none⟩), .int .u8 58] u fun e w' => e = .returned .nilIface ∧ BS b u1 (t ++ [58]) w' := by
  refine (writeByte_any b b _ 58 u h.1 (by rw [Lib.byteCells_length]; omega) h.size).mono ?_
  rintro e w' ⟨rfl, h1, h2⟩
  refine ⟨rfl, .inr ?_, Below.trans h.2 h2⟩
  rw [byteCells_app]; exact h1
theorem joined_len : ∀ l : List Tx, (∀ s ∈ l, s.length ≤ 1000000) → (Dg.joined l).length ≤ l.length * 1000008
  | [], _ => by simp [Dg.joined]
  | s :: l, h => by
    have ih := joined_len l (fun x hx => h x (by simp [hx]))
    have h1 := h s (by simp)
    have h2 := dec_len 7 s.length (by omega) (by decide)
    unfold Dg.joined at ih ⊢
    rw [List.flatMap_cons, List.length_append, List.length_cons]
    unfold Dg.elem at ih ⊢
    rw [List.length_append, List.length_cons]; omega
theorem fjoined_any (A : Option Addr) (n c : Nat) (l : List Tx) (w : World) (hn : n = l.length) (hl : n ≤ 200) (hs : ∀ s ∈ l, s.length ≤ 1000000) (h : Rd w A (strsC l)) (ht : Tab w) :
    Calls Tryz.prog 69 #[.slice A n c] w fun e w' => e = .returned (.string (mkB (Dg.joined l))) ∧ Below w.heap.size w w' := by
  have H := Lib.hid h
  have HN := Lib.hid hn
  have HS := Lib.hid hs
  have HT := Lib.hid ht
  obtain ⟨b, hb⟩ : ∃ b, w.heap.size = b := ⟨_, rfl⟩
  obtain ⟨X, hX⟩ : ∃ X, X = w.alloc (.cells #[.pointer none, .slice none 0 0] 146) := ⟨_, rfl⟩
  have S0 : Hid (BS b w (Dg.joined (l.take 0)) X) := Lib.hid ⟨by rw [hX, ← hb]; exact Lib.fresh_isBuilder _ _ _, by rw [hX, ← hb]; exact (Below.refl _ _).alloc (Nat.le_refl _) _⟩
  have HB := Lib.hid hb
  have JL : Hid (∀ k, (Dg.joined (l.take k)).length ≤ 300000000) := Lib.hid (fun k => by
    refine Nat.le_trans (joined_len (l.take k) (fun s hs' => hs s (List.mem_of_mem_take hs'))) ?_
    have : (l.take k).length ≤ 200 := by rw [List.length_take]; omega
    omega)
  have X0 := Lib.hid hX
  clear h hn hs ht hb hX
  go_enter Tryz.func69, Tryz.ntmps69
  go_wp2_with fail
  rw [← X0.out]
  rw [HB.out]
  go_loopw [5, 8] (fun s5 s8 wr => ∃ k : Nat, k ≤ n ∧ s8 = .int .i64 (k : Int) ∧ (∃ p, s5 = p) ∧ Hid (BS b w (Dg.joined (l.take k)) wr)) (fun _ i _ => n - (intOf i).toNat)
  case atStart => exact ⟨0, Nat.zero_le _, rfl, ⟨_, rfl⟩, S0⟩
  case round =>
    clear S0
    obtain ⟨k, hkn, rfl, ⟨p5, rfl⟩, SK⟩ := hrel
    have BW : Hid (Below w.heap.size w wr) := Lib.hid (by rw [HB.out]; exact SK.out.2)
    by_cases hlt : k < n
    · have hkl : k < l.length := by rw [← HN.out]; exact hlt
      have d1 : (k : Int) < (n : Int) := by omega
      have d2 : (0 : Int) ≤ (k : Int) := by omega
      obtain ⟨g, off, rfl, hg, c0⟩ := strs_at (H.out.below BW.out) hkl
      have TK : Hid (Dg.joined (l.take (k + 1)) = Dg.joined (l.take k) ++ Dg.dec l[k].length ++ [58] ++ l[k]) := Lib.hid (by
        rw [List.take_succ_eq_append_getElem hkl]; unfold Dg.joined
        rw [List.flatMap_append, List.flatMap_singleton]; simp [Dg.elem])
      have J1 := JL.out k
      have hz := HS.out l[k] (List.getElem_mem hkl)
      have D7 := dec_len 7 l[k].length (by omega) (by decide)
      have ml := mkB_len l[k]
      have IT : Hid (Calls Tryz.prog 113 #[.int .i64 (l[k].length : Int)] wr fun e w' => e = .returned (.string (mkB (Dg.dec l[k].length))) ∧ Below wr.heap.size wr w') := Lib.hid (itoa_any l[k].length wr (by omega) (HT.out.keep BW.out))
      generalize l[k] = s at *
      generalize Dg.joined (l.take k) = J at *
      obtain ⟨m, hm⟩ : ∃ m, s.length = m := ⟨_, rfl⟩
      have HM := Lib.hid hm
      rw [hm] at ml hz D7
      simp only [hm] at TK IT
      clear hm
      go_wp2_with fail
      (with_reducible refine IT.out.mono ?_)
      rintro e u1 ⟨rfl, b1⟩
      have W1 := Lib.hid ((SK.out.call b1).write (Dg.dec m) (by omega))
      clear b1 IT SK c0
      go_wp2_with fail
      (with_reducible refine W1.out.mono ?_)
      rintro e u2 ⟨rfl, S2⟩
      have W2 := Lib.hid (S2.wbyte (by rw [List.length_append]; omega))
      clear S2 W1
      go_wp2_with fail
      (with_reducible refine W2.out.mono ?_)
      rintro e u3 ⟨rfl, S3⟩
      have W3 := Lib.hid (S3.write s (by rw [List.length_append, List.length_append, HM.out]; simp; omega))
      clear S3 W2
      go_wp2_with fail
      (with_reducible refine W3.out.mono ?_)
      rintro e u4 ⟨rfl, S4⟩
      rw [← TK.out] at S4
      have HS4 := Lib.hid S4
      clear S4 W3
      go_wp2_with fail
      exact ⟨⟨k + 1, by omega, by go_num, ⟨_, rfl⟩, HS4⟩, by simp [intOf]; omega⟩
    · have d1 : ¬ (k : Int) < (n : Int) := by omega
      have TE : Hid (l.take k = l) := Lib.hid (List.take_of_length_le (by rw [← HN.out]; omega))
      rw [TE.out] at SK
      have ST := Lib.hid SK.out.str
      go_wp2_with fail
      (with_reducible refine ST.out.mono ?_)
      rintro e u5 ⟨rfl, o5⟩
      have B5 : Hid (Below w.heap.size w u5) := Lib.hid (by rw [HB.out]; exact o5)
      clear o5 ST
      go_wp2_with fail
      go_ret
      exact ⟨rfl, B5.out⟩
end Go.Proofs.YtniklmikdkjgiaaGreatDoor
