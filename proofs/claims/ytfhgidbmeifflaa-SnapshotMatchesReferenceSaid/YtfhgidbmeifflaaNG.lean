/- WALK: Forget, the loop. -/
import Derived.Test.YtfhgidbmeifflaaNF
import Derived.Deep.AppendLies
import Derived.Deep.Onto
set_option linter.unusedSimpArgs false
set_option linter.unusedVariables false
namespace Go.Proofs.Ytfhgidbmeifflaa
open Go.RowKit Go.Maps Go.ChangeMaps Go.MapKept Go.WideShapes Go.WideMaps

theorem step_appB {P : Program} {ops : Array Oper} {o : Oper} {a : Act} {K : Act → World → Prop} {Q : Exit → Act → World → Prop} {E : Prop} (hgd : o.guard = none) (s x : Operand) (t : TypeId)
    (ho : o.op = .call { callee := .builtin .append, args := #[s, x], argTypes := #[t, t] }) {e : TypeId} {z : Value} {size bytes : Nat}
    (ht : P.underlying t = some (.slice e)) (hinfo : (P.info? e).map (fun i => (i.zero, i.size, i.bytes)) = some (some z, size, bytes)) (hzs : z.cells.size = size) (hsz : 0 < size)
    (base : Nat) (v : Value) (n m : Nat) (xs : List Value) (w0 : World) (cs : Array Value) (hcs : cs.size = m * size) (h1 : ∀ u ∈ cs.toList, u.oneCell' = true)
    (hs : a.eval s = v) {g : Nat} (hx : a.eval x = .slice (some ⟨g, 0, none⟩) m m) (hg : w0.heap.size = g) (hown : w0.ownsRow base e size v n xs) (hb : base ≤ w0.heap.size)
    (hbytes : (n + m) * bytes ≤ 140737488355328) (hmax : n + m ≤ 9223372036854775807) (hm : 0 < m)
    (h : ∀ A c w', w'.ownsRow base e size (.slice A (n + m) c) (n + m) (xs ++ cs.toList) → Below base w0 w' → (w0.alloc (.cells cs e)).grownBy w' v.ownBlock → K (a.put o.dst (.slice A (n + m) c)) w') :
    if Region.wanted o (yielded ops a.tmps) = true then Oper.wp P o a (w0.alloc (.cells cs e)) K Q else E := by
  subst hg
  obtain ⟨i, hi, hz, hsi, hby⟩ := info_parts hinfo
  refine step_append_lies (w0.alloc (.cells cs e)) hgd s x t ho base e i z size bytes ht hi hz hsi hby hzs hsz v n xs hs (hown.alloc _) ⟨w0.heap.size, 0, none⟩ m m cs.toList hx (by simpa using hcs)
    (World.news_of_block (cs := cs) (t := e) (fr := (0, 0)) (heap_alloc_new w0 _)) h1 hm (by simpa [maxLen] using hmax) hbytes (by simp; omega) _ rfl ?_
  intro g cap w' hown' hg _ _
  exact h _ _ w' hown' (((Below.refl base w0).alloc hb _).trans (grown_below hg (fun k hk => (hown.lt k hk).1) (by simp; omega))) hg
theorem rows_set : ∀ {l : List Sn.Val} {k : Nat} (_ : k < l.length) (v : Sn.Val) {a b c d : Value}, vCells v = [a, b, c, d] → ((((rows l).set (k * 4) a).set (k * 4 + 1) b).set (k * 4 + 2) c).set (k * 4 + 3) d = rows (l.set k v)
  | [], _, h, _, _, _, _, _, _ => by simp at h
  | x :: l, 0, _, v, a, b, c, d, hv => by
    show _ = rows (v :: l)
    unfold rows
    rw [List.flatMap_cons, List.flatMap_cons, hv]
    rfl
  | x :: l, k + 1, h, v, a, b, c, d, hv => by
    have ih := rows_set (l := l) (k := k) (by simpa using h) v hv
    show _ = rows (x :: l.set k v)
    have e0 : (k + 1) * 4 = k * 4 + 1 + 1 + 1 + 1 := by omega
    have hr : ∀ m : List Sn.Val, rows (x :: m) = .int .i64 (x.since : Int) :: .string (mkB x.text) :: .bool x.gone :: .bool x.forgot :: rows m := fun m => by unfold rows; rw [List.flatMap_cons]; rfl
    rw [hr, hr, ← ih, e0]
    rfl
theorem fgt_put {l : List Sn.Val} {k : Nat} (h : k < l.length) : (l.take (k + 1)).map Sn.fgt ++ l.drop (k + 1) = ((l.take k).map Sn.fgt ++ l.drop k).set k (Sn.fgt l[k]) := by
  have hl : ((l.take k).map Sn.fgt).length = k := by simp; omega
  rw [List.set_append_right _ _ (by omega), hl, Nat.sub_self, List.take_succ_eq_append_getElem h, List.map_append, List.append_assoc, List.drop_eq_getElem_cons h]
  rfl
theorem fgt_at {l : List Sn.Val} {k : Nat} (h : k < l.length) : ((l.take k).map Sn.fgt ++ l.drop k).length = l.length ∧ ∃ h' : k < ((l.take k).map Sn.fgt ++ l.drop k).length, ((l.take k).map Sn.fgt ++ l.drop k)[k] = l[k] := by
  have hl : ((l.take k).map Sn.fgt).length = k := by simp; omega
  have e : ((l.take k).map Sn.fgt ++ l.drop k).length = l.length := by rw [List.length_append, hl, List.length_drop]; omega
  refine ⟨e, by omega, ?_⟩
  rw [List.getElem_append_right (by omega), List.getElem_drop]
  congr 1
  omega
theorem rows_app (a b : List Sn.Val) : rows (a ++ b) = rows a ++ rows b := by unfold rows; rw [List.flatMap_append]
theorem any_take {l : List Sn.Val} {k : Nat} (h : k < l.length) : (l.take (k + 1)).any (fun v => !v.gone) = ((l.take k).any (fun v => !v.gone) || !l[k].gone) := by
  rw [List.take_succ_eq_append_getElem h, List.any_append]; simp
theorem But.thenB {X : Nat → Prop} {w u u' : World} (h : But X w u) (hb : Below w.heap.size u u') : But X w u' :=
  ⟨hb.os.trans h.os, hb.tape.trans h.tape, hb.output.trans h.output, Nat.le_trans h.size hb.size, fun k hk hx => (hb.block k hk).trans (h.block k hk hx)⟩
/-- Forget, plainly -/
def forgetF (s : Sh) (t : List UInt8) : Sh × Nat :=
  if (s.keys t).any (fun v => !v.gone) then ({ s with clk := s.clk + 1, keys := setK s.keys t ((s.keys t).map Sn.fgt ++ [⟨s.clk + 1, [], true, false⟩]) }, 0) else (s, 11)
theorem forget_nil (key : Value) (w : World) : Calls Try.prog 22 #[.pointer none, key] w fun e w' => e = .returned (.int .i64 1) ∧ w' = w := by
  go_enter Try.func22, Try.ntmps22
  go_wp2_with fail
  go_ret
  exact ⟨rfl, rfl⟩
set_option maxHeartbeats 8000000 in
set_option maxRecDepth 100000 in
theorem forget_any (p : Nat) (F : Nat → Prop) (s : Sh) (key : ByteArray) (w : World) (hI : ShInv s) (h : ShAt w p F s) (hk : key.size ≤ 9223372036854775807) :
    Calls Try.prog 22 #[.pointer (some ⟨p, 0, none⟩), .string key] w fun e w' => e = .returned (.int .i64 ((forgetF s key.data.toList).2 : Int)) ∧ ShPost w p F (forgetF s key.data.toList).1 w' := by
  obtain ⟨bm, br, nk, hd, h⟩ := h
  have H := Lib.hid h
  obtain ⟨x0, x1, x2, x3, x4⟩ := h.cells
  have lk := h.look key hk
  obtain ⟨A, c, hA, hRd⟩ := h.head key.data.toList
  rw [hA] at lk
  have RD := Lib.hid hRd
  have HI := Lib.hid hI
  have LEN := hI.len key.data.toList
  have CLK := hI.clk
  have KS := key_str key hk
  generalize hl : s.keys key.data.toList = l at *
  have HL := Lib.hid hl
  have CL := Lib.hid (fun u (hu : Rd u A (rows l)) => clone_any A l.length c l u rfl (by omega) hu)
  have HRF : Hid (forgetF s key.data.toList = if l.any (fun v => !v.gone) then ({ s with clk := s.clk + 1, keys := setK s.keys key.data.toList (l.map Sn.fgt ++ [⟨s.clk + 1, [], true, false⟩]) }, 0) else (s, 11)) := Lib.hid (by rw [← hl]; rfl)
  generalize forgetF s key.data.toList = RR at *
  clear h hA hRd hI hl
  go_enter Try.func22, Try.ntmps22
  go_wp2_with fail
  refine (CL.out _ RD.out).mono ?_
  rintro e w1 ⟨v, rfl, hown, hb1⟩
  obtain ⟨Av, cv, rfl, -, -⟩ := own_form hown
  have OW := Lib.hid hown
  have B1 := Lib.hid hb1
  clear hown hb1
  go_wp2_with fail
  go_loopw [5, 19] (fun s5 s19 wr => ∃ k : Nat, k ≤ l.length ∧ s19 = .int .i64 (k : Int) ∧ s5 = .bool ((l.take k).any fun v => !v.gone) ∧ Hid (wr.ownsRow w.heap.size 62 4 (.slice Av l.length cv) l.length (rows ((l.take k).map Sn.fgt ++ l.drop k))) ∧ Hid (Below w.heap.size w wr)) (fun _ i _ => l.length - (intOf i).toNat)
  case atStart => exact ⟨0, Nat.zero_le _, rfl, rfl, OW, B1⟩
  case round =>
    clear lk x0 x1 x2 x3 x4 OW B1
    obtain ⟨k, hkl, rfl, rfl, OW, BL⟩ := hrel
    by_cases hlt : k < l.length
    · have d1 : (k : Int) < (l.length : Int) := by omega
      have d2 : (0 : Int) ≤ (k : Int) := by omega
      obtain ⟨g, cap, hv, hbg, hgz⟩ := OW.out.form (by omega)
      cases hv
      obtain ⟨el, hk2, eg⟩ := fgt_at hlt
      have hc : ∀ f u, (vCells l[k])[f]? = some u → wr.cell? ⟨g, k * 4 + f, none⟩ = some u := fun f u hu => by
        have hf4 : f < 4 := (List.getElem?_eq_some_iff.1 hu).1
        rw [OW.out.cellAt _ (by omega)]
        exact rows_get hk2 (by rw [eg]; exact hu)
      have c0 : wr.cell? ⟨g, k * 4, none⟩ = some (.int .i64 (l[k].since : Int)) := hc 0 _ rfl
      have c2 := hc 2 _ rfl
      have f0 := OW.out.frozenAt (k * 4)
      have f1 := OW.out.frozenAt (k * 4 + 1)
      have f2 := OW.out.frozenAt (k * 4 + 2)
      have f3 := OW.out.frozenAt (k * 4 + 3)
      have c1 := hc 1 _ rfl
      have c3 := hc 3 _ rfl
      have AT := any_take hlt
      have FP := Lib.hid (fgt_put hlt)
      have RS : Hid (∀ {a b c d : Value}, vCells (Sn.fgt l[k]) = [a, b, c, d] → _) := Lib.hid (rows_set hk2 (Sn.fgt l[k]))
      have FG : Hid (Sn.fgt l[k] = if l[k].gone then l[k] else ⟨l[k].since, [], true, true⟩) := Lib.hid rfl
      have ES : Hid (((l.take k).map Sn.fgt ++ l.drop k).set k l[k] = (l.take k).map Sn.fgt ++ l.drop k) := Lib.hid (by rw [← eg]; exact List.set_getElem_self hk2)
      generalize hmm : (l.take k).map Sn.fgt ++ l.drop k = mm at *
      generalize (l.take k).any (fun v => !v.gone) = fd at *
      clear hc
      cases hgn : l[k].gone
      · rw [hgn] at c2 AT FG
        have VC : vCells (Sn.fgt l[k]) = [.int .i64 (l[k].since : Int), .string ⟨#[]⟩, .bool true, .bool true] := by rw [FG.out]; rfl
        have R1 := RS.out VC
        obtain ⟨o1, g1⟩ := OW.out.stored (k * 4) (.int .i64 (l[k].since : Int))
        obtain ⟨o2, g2⟩ := o1.stored (k * 4 + 1) (.string ⟨#[]⟩)
        obtain ⟨o3, g3⟩ := o2.stored (k * 4 + 2) (.bool true)
        obtain ⟨o4, g4⟩ := o3.stored (k * 4 + 3) (.bool true)
        rw [R1, ← FP.out] at o4
        have O4 := Lib.hid o4
        clear o1 o2 o3 o4 g1 g2 g3 g4 R1 VC
        go_wp2_with fail
        refine ⟨⟨k + 1, by omega, by go_num, by rw [AT]; simp, O4, Lib.hid ?_⟩, by simp [intOf]; omega⟩
        exact Below.setCell (Below.setCell (Below.setCell (Below.setCell BL.out hbg _) hbg _) hbg _) hbg _
      · rw [hgn] at c2 AT FG
        have E1 : (l.take (k + 1)).map Sn.fgt ++ l.drop (k + 1) = mm := by rw [FP.out, FG.out]; exact ES.out
        go_wp2_with fail
        refine ⟨⟨k + 1, by omega, by go_num, by rw [AT]; simp, by rw [E1]; exact OW, BL⟩, by simp [intOf]; omega⟩
    · have d1 : ¬ (k : Int) < (l.length : Int) := by omega
      have hkl' : k = l.length := by omega
      subst hkl'
      rw [List.take_length, List.drop_length, List.append_nil] at OW
      rw [List.take_length]
      clear hlt hkl
      have H1 := H.out.below BL.out
      have x1 := H1.cells.2.1
      have fz := free_blk H1.blk 1
      cases hfd : l.any (fun v => !v.gone)
      · rw [hfd] at HRF
        go_wp2_with fail
        go_ret
        have RE : RR = (s, 11) := HRF.out
        refine ⟨by rw [RE]; rfl, by rw [RE]; exact ⟨F, ⟨bm, br, nk, hd, H1⟩, fun g hg => .inl hg, But.of_below BL.out⟩⟩
      · rw [hfd] at HRF
        have RE : Hid (RR = ({ s with clk := s.clk + 1, keys := setK s.keys key.data.toList (l.map Sn.fgt ++ [⟨s.clk + 1, [], true, false⟩]) }, 0)) := HRF
        obtain ⟨u0, hu0⟩ : ∃ u, u = wr.setCell ⟨p, 1, none⟩ (.int .i64 ((s.clk : Int) + 1)) := ⟨_, rfl⟩
        have j1 : (s.clk : Int) + 1 ≤ 10001 := by omega
        have HB1 := Lib.hid H1.blk
        clear H1
        go_wp2_with fail
        rw [← hu0]
        have B0 : KeepB p (.cells #[.int .i64 (s.ver : Int), .int .i64 ((s.clk : Int) + 1), .map (some bm), .map (some br), .int .i64 (s.opn : Int)] 53 (0, 0)) u0.drew := by
          show u0.heap[p]? = _
          rw [hu0]
          simp [World.setCell, Array.getElem?_modify, HB1.out]
        have hpw := H.out.lt p H.out.fp
        have O0 : u0.drew.ownsRow w.heap.size 62 4 (.slice Av l.length cv) l.length (rows (l.map Sn.fgt)) := by
          refine World.ownsRow.kept (w := wr) (row := some p) OW.out ⟨by rw [hu0]; rfl, by rw [hu0]; rfl, by rw [hu0]; rfl, by rw [hu0]; simp, fun k _ hk => by rw [hu0]; exact heap_setCell_other wr ⟨p, 1, none⟩ k _ (fun e => hk (by simp [e]))⟩ (.inr (fun e => by have := (OW.out.lt p e).1; omega))
        have T0 : But (fun g => g = p) w u0.drew := by rw [hu0]; exact But.drew (But.set (X := fun g => g = p) (But.of_below BL.out) rfl _)
        have OO := Lib.hid O0; have HB0 := Lib.hid B0; have TT := Lib.hid T0
        have zz : w.heap.size ≤ u0.drew.heap.size := T0.size
        clear O0 T0 hu0 x1 fz OW BL
        have C1 : ∀ w', KeepB p (.cells #[.int .i64 (s.ver : Int), .int .i64 ((s.clk : Int) + 1), .map (some bm), .map (some br), .int .i64 (s.opn : Int)] 53 (0, 0)) w' → w'.cell? ⟨p, 1, none⟩ = some (.int .i64 ((s.clk : Int) + 1)) := fun w' h => cell_of_row w' p 1 _ _ _ h
        have C2 : ∀ w', KeepB p (.cells #[.int .i64 (s.ver : Int), .int .i64 ((s.clk : Int) + 1), .map (some bm), .map (some br), .int .i64 (s.opn : Int)] 53 (0, 0)) w' → w'.cell? ⟨p, 2, none⟩ = some (.map (some bm)) := fun w' h => cell_of_row w' p 2 _ _ _ h
        (refine wp_region_noPanic ?_; refine wp_region_held_drew (S := (fun w' => KeepB p (.cells #[.int .i64 (s.ver : Int), .int .i64 ((s.clk : Int) + 1), .map (some bm), .map (some br), .int .i64 (s.opn : Int)] 53 (0, 0)) w')) (by kernel_rfl) ?_ (fun hHeld => ?_); exact B0)
        (refine wpAnyH_take (i := 0) (oi := _) (v := ?_) rfl (by kernel_rfl) (by kernel_rfl) (by kernel_rfl) (fun _ _ _ h => h) (Or.inl ⟨?_, ?_⟩) (by assumption) ?_; rotate_left; (focus (first | rfl | (simp [Region.wanted, yielded]; done))); (focus (intro w hSw; (try dsimp only at hSw); go_simp; all_goals (with_reducible rfl))); try simp only [Act.put, List.getElem_toArray, List.getElem_cons_zero, List.getElem_cons_succ, List.setIfInBounds_toArray, List.set_cons_zero, List.set_cons_succ])
        (refine wpAnyH_take (i := 1) (oi := _) (v := ?_) rfl (by kernel_rfl) (by kernel_rfl) (by kernel_rfl) (fun _ _ _ h => h) (Or.inl ⟨?_, ?_⟩) (by assumption) ?_; rotate_left; (focus (first | rfl | (simp [Region.wanted, yielded]; done))); (focus (intro w hSw; (try dsimp only at hSw); go_simp; all_goals (with_reducible rfl))); try simp only [Act.put, List.getElem_toArray, List.getElem_cons_zero, List.getElem_cons_succ, List.setIfInBounds_toArray, List.set_cons_zero, List.set_cons_succ])
        (refine wpAnyH_take (i := 2) (oi := _) (v := ?_) rfl (by kernel_rfl) (by kernel_rfl) (by kernel_rfl) (fun _ _ _ h => h) (Or.inl ⟨?_, ?_⟩) (by assumption) ?_; rotate_left; (focus (first | rfl | (simp [Region.wanted, yielded]; done))); (focus (intro w hSw; (try dsimp only at hSw); go_simp; all_goals (with_reducible rfl))); try simp only [Act.put, List.getElem_toArray, List.getElem_cons_zero, List.getElem_cons_succ, List.setIfInBounds_toArray, List.set_cons_zero, List.set_cons_succ])
        (refine wpAnyH_take (i := 3) (oi := _) (v := ?_) rfl (by kernel_rfl) (by kernel_rfl) (by kernel_rfl) (fun _ _ _ h => h) (Or.inl ⟨?_, ?_⟩) (by assumption) ?_; rotate_left; (focus (first | rfl | (simp [Region.wanted, yielded]; done))); (focus (intro w hSw; (try dsimp only at hSw); go_simp; all_goals (with_reducible rfl))); try simp only [Act.put, List.getElem_toArray, List.getElem_cons_zero, List.getElem_cons_succ, List.setIfInBounds_toArray, List.set_cons_zero, List.set_cons_succ])
        (refine wpAnyH_take (i := 4) (oi := _) (v := ?_) rfl (by kernel_rfl) (by kernel_rfl) (by kernel_rfl) (fun _ _ _ h => h) (Or.inl ⟨?_, ?_⟩) (by assumption) ?_; rotate_left; (focus (first | rfl | (simp [Region.wanted, yielded]; done))); (focus (intro w hSw; (try dsimp only at hSw); go_simp; all_goals (with_reducible rfl))); try simp only [Act.put, List.getElem_toArray, List.getElem_cons_zero, List.getElem_cons_succ, List.setIfInBounds_toArray, List.set_cons_zero, List.set_cons_succ])
        (refine wpAnyH_take (i := 5) (oi := _) (v := ?_) rfl (by kernel_rfl) (by kernel_rfl) (by kernel_rfl) (fun _ _ _ h => h) (Or.inl ⟨?_, ?_⟩) (by assumption) ?_; rotate_left; (focus (first | rfl | (simp [Region.wanted, yielded]; done))); (focus (intro w hSw; (try dsimp only at hSw); go_simp; all_goals (with_reducible rfl))); try simp only [Act.put, List.getElem_toArray, List.getElem_cons_zero, List.getElem_cons_succ, List.setIfInBounds_toArray, List.set_cons_zero, List.set_cons_succ])
        (refine wpAnyH_take (i := 6) (oi := _) (v := ?_) rfl (by kernel_rfl) (by kernel_rfl) (by kernel_rfl) (fun _ _ _ h => h) (Or.inl ⟨?_, ?_⟩) (by assumption) ?_; rotate_left; (focus (first | rfl | (simp [Region.wanted, yielded]; done))); (focus (intro w hSw; (try dsimp only at hSw); go_simp; all_goals (with_reducible rfl))); try simp only [Act.put, List.getElem_toArray, List.getElem_cons_zero, List.getElem_cons_succ, List.setIfInBounds_toArray, List.set_cons_zero, List.set_cons_succ])
        (refine wpAnyH_take (i := 7) (oi := _) (v := ?_) rfl (by kernel_rfl) (by kernel_rfl) (by kernel_rfl) (fun _ _ _ h => h) (Or.inl ⟨?_, ?_⟩) (by assumption) ?_; rotate_left; (focus (first | rfl | (simp [Region.wanted, yielded]; done))); (focus (intro w hSw; (try dsimp only at hSw); go_simp; all_goals (with_reducible rfl))); try simp only [Act.put, List.getElem_toArray, List.getElem_cons_zero, List.getElem_cons_succ, List.setIfInBounds_toArray, List.set_cons_zero, List.set_cons_succ])
        (refine wpAnyH_take (i := 8) (oi := _) (v := ?_) rfl (by kernel_rfl) (by kernel_rfl) (by kernel_rfl) (fun _ _ _ h => h) (Or.inl ⟨?_, ?_⟩) (by assumption) ?_; rotate_left; (focus (first | rfl | (simp [Region.wanted, yielded]; done))); (focus (intro w hSw; (try dsimp only at hSw); go_simp; all_goals (with_reducible rfl))); try simp only [Act.put, List.getElem_toArray, List.getElem_cons_zero, List.getElem_cons_succ, List.setIfInBounds_toArray, List.set_cons_zero, List.set_cons_succ])
        (refine wpAnyH_take (i := 9) (oi := _) (v := ?_) rfl (by kernel_rfl) (by kernel_rfl) (by kernel_rfl) (fun _ _ _ h => h) (Or.inl ⟨?_, ?_⟩) (by assumption) ?_; rotate_left; (focus (first | rfl | (simp [Region.wanted, yielded]; done))); (focus (intro w hSw; (try dsimp only at hSw); go_simp; all_goals (with_reducible rfl))); try simp only [Act.put, List.getElem_toArray, List.getElem_cons_zero, List.getElem_cons_succ, List.setIfInBounds_toArray, List.set_cons_zero, List.set_cons_succ])
        (refine wpAnyH_take (i := 10) (oi := _) (v := ?_) rfl (by kernel_rfl) (by kernel_rfl) (by kernel_rfl) (fun _ _ _ h => h) (Or.inl ⟨?_, ?_⟩) (by assumption) ?_; rotate_left; (focus (first | rfl | (simp [Region.wanted, yielded]; done))); (focus (intro w hSw; (try dsimp only at hSw); go_simp; all_goals (with_reducible rfl))); try simp only [Act.put, List.getElem_toArray, List.getElem_cons_zero, List.getElem_cons_succ, List.setIfInBounds_toArray, List.set_cons_zero, List.set_cons_succ])
        (refine wpAnyH_ready (rs := [11]) (by kernel_rfl) (by simp) ?_; refine AllReadyH.cons (o := _) rfl (fun K hK => ?_) AllReadyH.nil; go_simp)
        (refine hK.out _ _ ((alloc_old _ _ (lt_of_block B0)).trans B0) (fun hHeld2 => ?_); clear hK K hHeld; have hHeld := hHeld2; clear hHeld2; try simp only [Act.put, List.getElem_toArray, List.getElem_cons_zero, List.getElem_cons_succ, List.setIfInBounds_toArray, List.set_cons_zero, List.set_cons_succ])
        (refine wpAnyH_ready (rs := [12]) (by kernel_rfl) (by simp) ?_; refine AllReadyH.cons (o := _) rfl (fun K hK => ?_) AllReadyH.nil)
        refine step_appB rfl (.tmp 52) (.tmp 58) 60 rfl Try.underlying60 info_val rfl (by decide) w.heap.size (.slice Av l.length cv) l.length 1 _ u0.drew _ rfl ?_ rfl rfl rfl OO.out zz (by omega) (by omega) (by omega) ?_
        · intro x hx
          simp at hx
          rcases hx with rfl | rfl | rfl | rfl <;> rfl
        intro A2 c2 u1 hown hb1 hg1
        have B1 : KeepB p (.cells #[.int .i64 (s.ver : Int), .int .i64 ((s.clk : Int) + 1), .map (some bm), .map (some br), .int .i64 (s.opn : Int)] 53 (0, 0)) u1 := (hb1.block p hpw).trans B0
        have T1 := Lib.hid (TT.out.thenB hb1)
        have O1 := Lib.hid hown
        clear hown hb1 hg1
        have hbm := H.out.lt bm H.out.fm
        obtain ⟨u2, hup, hm2, hg2⟩ := (H.out.km.same (T1.out.block bm hbm H.out.ne_p.1)).upd strK Try.underlying50 (by have := H.out.nk; have := HI.out.lim; unfold maxLen; omega) KS (.slice A2 (l.length + 1) c2)
        have M2 := Lib.hid hm2; have G2 := Lib.hid hg2
        clear hm2 hg2
        (refine hK.out _ _ B1 (fun hHeld2 => ?_); clear hK K hHeld; have hHeld := hHeld2; clear hHeld2; try simp only [Act.put, List.getElem_toArray, List.getElem_cons_zero, List.getElem_cons_succ, List.setIfInBounds_toArray, List.set_cons_zero, List.set_cons_succ])
        (refine wpAnyH_ready (rs := [13]) (by kernel_rfl) (by simp) ?_; refine AllReadyH.cons (o := _) rfl (fun K hK => ?_) AllReadyH.nil; go_simp)
        have B2 : KeepB p (.cells #[.int .i64 (s.ver : Int), .int .i64 ((s.clk : Int) + 1), .map (some bm), .map (some br), .int .i64 (s.opn : Int)] 53 (0, 0)) u2 := (G2.out.block p (lt_of_block B1) (fun e => by cases e; exact H.out.ne_p.1 rfl)).trans B1
        (refine hK.out _ _ B2 (fun hHeld2 => ?_); clear hK K hHeld; have hHeld := hHeld2; clear hHeld2; try simp only [Act.put, List.getElem_toArray, List.getElem_cons_zero, List.getElem_cons_succ, List.setIfInBounds_toArray, List.set_cons_zero, List.set_cons_succ])
        (refine wpAnyH_done (by kernel_rfl) ?_ _; refine NoPanic.normal ?_)
        clear hHeld C1 C2 hup
        go_wp2_with fail
        go_ret
        have ln : (l.map Sn.fgt ++ [⟨s.clk + 1, [], true, false⟩] : List Sn.Val).length = l.length + 1 := by simp
        have hsz2 : w.heap.size ≤ u2.heap.size := Nat.le_trans T1.out.size G2.out.size
        have hne : ∀ g, (Value.slice A2 (l.length + 1) c2).ownBlock = some g → w.heap.size ≤ g := fun g hg => (O1.out.lt g hg).1
        have row2 : u2.ownsRow 0 62 4 (.slice A2 (l.length + 1) c2) (l.length + 1) (rows (l.map Sn.fgt ++ [⟨s.clk + 1, [], true, false⟩])) := by
          rw [rows_app]
          exact (O1.out.kept G2.out (.inr (fun e => by have := hne bm e; omega))).mono (Nat.zero_le _)
        refine ⟨by rw [RE.out]; rfl, ?_⟩
        rw [RE.out]
        refine ⟨_, ⟨bm, br, _, _, H.out.put key.data.toList (.slice A2 (l.length + 1) c2) (l.map Sn.fgt ++ [⟨s.clk + 1, [], true, false⟩]) hsz2 (fun g hg h1 h2 _ => ?_) B2 M2.out (by simp) (by rw [ln]; exact row2) (fun g hg => .inl (hne g hg)) rfl rfl rfl ?_⟩, fun g hg => ?_, ?_⟩
        · exact (G2.out.block g (Nat.lt_of_lt_of_le (H.out.lt g hg) T1.out.size) (fun e => by cases e; exact h2 rfl)).trans (T1.out.block g (H.out.lt g hg) h1)
        · have hs : (keyM hd (.string key.data.toList)).isSome = true := by
            show (hd key.data.toList).isSome = true
            cases e : hd key.data.toList with
            | none => have := H.out.none_ _ e; rw [HL.out] at this; rw [this] at hfd; cases hfd
            | some v => rfl
          rw [if_pos hs]
          exact H.out.nk
        · rcases hg with h | h
          · exact .inl h
          · exact .inr (hne g h)
        · refine But.trans (b := u1) ⟨T1.out.os, T1.out.tape, T1.out.output, T1.out.size, fun k hk hx => T1.out.block k hk (fun e => hx (e ▸ H.out.fp))⟩ (But.grown G2.out H.out.fm)
end Go.Proofs.Ytfhgidbmeifflaa
