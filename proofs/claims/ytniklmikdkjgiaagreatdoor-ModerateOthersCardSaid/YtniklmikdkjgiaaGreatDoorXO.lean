/- WALKS: the law's said and forget; what Clean and Forgotten hand back. | WALKS: the law's in and back; append of whole lists. -/
import Derived.Test.YtniklmikdkjgiaaGreatDoorXN
import Derived.Test.YtniklmikdkjgiaaGreatDoorXK
import Derived.Test.YtniklmikdkjgiaaGreatDoorYJ
import Derived.Test.YtniklmikdkjgiaaGreatDoorXJ
set_option linter.unusedSimpArgs false
set_option linter.unusedVariables false
namespace Go.Proofs.YtniklmikdkjgiaaGreatDoor
open Go.RowKit

def mainT : Tx := [109, 97, 105, 110]
def hexT : Tx := [48, 49, 50, 51, 52, 53, 54, 55, 56, 57, 97, 98, 99, 100, 101, 102]
def nilV : Value := .slice none 0 0
def saidR (i : Int) (s : Tx) : RV := ⟨2, i, 1, 1, mainT, [], .slice none 0 0, [], .slice none 0 0, hexT, false, 0, [], zeroSl, s, [], [], .slice none 0 0, [], .slice none 0 0, zeroSl⟩
def forgetR (i : Int) : RV := ⟨5, i, 2, 2, mainT, [], .slice none 0 0, [], .slice none 0 0, [], false, 0, [], zeroSl, [], [], [], .slice none 0 0, [], .slice none 0 0, zeroSl⟩
set_option maxHeartbeats 2000000 in
set_option maxRecDepth 100000 in
theorem said_any (i : Int) (s : Tx) (w : World) :
    Calls Tryz.prog 46 #[.int .i64 i, .string (mkB s)] w fun e w' => e = .returned (.agg (rvL (saidR i s)).toArray) ∧ Below w.heap.size w w' := by
  obtain ⟨cs, hcs⟩ : ∃ cs, cs = rvL (saidR i s) := ⟨_, rfl⟩
  have ONE : cs.toArray.all (·.oneCell') = true := by rw [hcs]; simp [rvL, saidR, forgetR, zeroSl, Value.oneCell']
  have ZA : (Tryz.prog.info? 56).map (·.size) = some cs.toArray.size := by rw [hcs]; kernel_rfl
  have ZL : (Tryz.prog.info? 56).map (·.size) = some cs.length := by rw [hcs]; kernel_rfl
  have NL : 21 = cs.length := by rw [hcs]; rfl
  have FX := Lib.hid (fun z (hz : z.length = 21) => setCells_freshG (P := Tryz.prog) w 56 z cs ZA (hz.trans NL) ONE)
  have NA : cs.toArray.size ≤ 21 := by rw [hcs]; exact Nat.le_refl 21
  have BX : Hid (Below w.heap.size w (w.alloc (.cells cs.toArray 56))) := Lib.hid ((Below.refl _ _).alloc (Nat.le_refl _) _)
  have LV := Lib.hid (run_loadVar_mid (P := Tryz.prog) (w.alloc (.cells cs.toArray 56)) w.heap.size 0 56 cs _ (by have := range_of_row (heap_alloc_new w (.cells cs.toArray 56)); simpa using this) Tryz.underlying56 rfl ZL)
  have HC := Lib.hid hcs
  rw [← hcs]
  clear hcs
  go_enter Tryz.func46, Tryz.ntmps46
  go_upto_region 1 with fail
  refine wp_region_lit ?_
  iterate 12 go_step
  refine wpList_store_mid rfl 56 (.tmp 4) (.tmp 8) rfl w.heap.size 0 cs.toArray rfl (by rw [HC.out]; rfl) (there_of_row (heap_alloc_new w _) NA) ZA ONE ?_
  rw [List.toList_toArray]
  have FY := FX.out zRow rfl
  unfold zRow at FY
  rw [FY]
  generalize w.alloc (.cells cs.toArray 56) = W3 at *
  go_simp
  go_step
  go_step
  go_step
  go_step
  try go_step
  exact bodyPost_ret (v := .agg cs.toArray) (results_cell1 (i := 4) (t := 56) rfl rfl LV.out) rfl ⟨rfl, BX.out⟩
set_option maxHeartbeats 2000000 in
set_option maxRecDepth 100000 in
theorem forget_any (i : Int) (w : World) :
    Calls Tryz.prog 47 #[.int .i64 i] w fun e w' => e = .returned (.agg (rvL (forgetR i)).toArray) ∧ Below w.heap.size w w' := by
  obtain ⟨cs, hcs⟩ : ∃ cs, cs = rvL (forgetR i) := ⟨_, rfl⟩
  have ONE : cs.toArray.all (·.oneCell') = true := by rw [hcs]; simp [rvL, saidR, forgetR, zeroSl, Value.oneCell']
  have ZA : (Tryz.prog.info? 56).map (·.size) = some cs.toArray.size := by rw [hcs]; kernel_rfl
  have ZL : (Tryz.prog.info? 56).map (·.size) = some cs.length := by rw [hcs]; kernel_rfl
  have NL : 21 = cs.length := by rw [hcs]; rfl
  have FX := Lib.hid (fun z (hz : z.length = 21) => setCells_freshG (P := Tryz.prog) w 56 z cs ZA (hz.trans NL) ONE)
  have NA : cs.toArray.size ≤ 21 := by rw [hcs]; exact Nat.le_refl 21
  have BX : Hid (Below w.heap.size w (w.alloc (.cells cs.toArray 56))) := Lib.hid ((Below.refl _ _).alloc (Nat.le_refl _) _)
  have LV := Lib.hid (run_loadVar_mid (P := Tryz.prog) (w.alloc (.cells cs.toArray 56)) w.heap.size 0 56 cs _ (by have := range_of_row (heap_alloc_new w (.cells cs.toArray 56)); simpa using this) Tryz.underlying56 rfl ZL)
  have HC := Lib.hid hcs
  rw [← hcs]
  clear hcs
  go_enter Tryz.func47, Tryz.ntmps47
  go_upto_region 1 with fail
  refine wp_region_lit ?_
  iterate 6 go_step
  refine wpList_store_mid rfl 56 (.tmp 2) (.tmp 4) rfl w.heap.size 0 cs.toArray rfl (by rw [HC.out]; rfl) (there_of_row (heap_alloc_new w _) NA) ZA ONE ?_
  rw [List.toList_toArray]
  have FY := FX.out zRow rfl
  unfold zRow at FY
  rw [FY]
  generalize w.alloc (.cells cs.toArray 56) = W3 at *
  go_simp
  go_step
  go_step
  go_step
  go_step
  try go_step
  exact bodyPost_ret (v := .agg cs.toArray) (results_cell1 (i := 2) (t := 56) rfl rfl LV.out) rfl ⟨rfl, BX.out⟩
/-- a record that lies nowhere -/
structure PlainR (r : RV) : Prop where
  is : ∀ w, RvIs w r
  sz : RcSz r.c
theorem es_nil (w : World) : Es w none [] := ⟨Rd.nil_ _ _, (fun _ h => by cases h), (fun _ h => by cases h), (fun _ h => by cases h), by decide⟩
theorem sl_nil (w : World) : SlIs w (.slice none 0 0) 0 [] := ⟨none, 0, rfl, Rd.nil_ _ _⟩
theorem saidP (i : Int) (s : Tx) (hs : s.length ≤ 1000000) : PlainR (saidR i s) :=
  ⟨fun w => ⟨sl_nil w, ⟨none, 0, rfl, es_nil w⟩, zeroSl_is w, sl_nil w, sl_nil w, zeroSl_is w⟩, ⟨Nat.le_of_ble_eq_true rfl, Nat.le_of_ble_eq_true rfl, Nat.le_of_ble_eq_true rfl, hs, Nat.le_of_ble_eq_true rfl, Nat.le_of_ble_eq_true rfl, (fun _ h => by cases h), Nat.le_of_ble_eq_true rfl, (fun _ h => by cases h), Nat.le_of_ble_eq_true rfl, zeroSe_sz, zeroSe_sz⟩⟩
theorem forgetP (i : Int) : PlainR (forgetR i) :=
  ⟨fun w => ⟨sl_nil w, ⟨none, 0, rfl, es_nil w⟩, zeroSl_is w, sl_nil w, sl_nil w, zeroSl_is w⟩, ⟨Nat.le_of_ble_eq_true rfl, Nat.le_of_ble_eq_true rfl, Nat.le_of_ble_eq_true rfl, Nat.le_of_ble_eq_true rfl, Nat.le_of_ble_eq_true rfl, Nat.le_of_ble_eq_true rfl, (fun _ h => by cases h), Nat.le_of_ble_eq_true rfl, (fun _ h => by cases h), Nat.le_of_ble_eq_true rfl, zeroSe_sz, zeroSe_sz⟩⟩
theorem newRs {W w : World} (_ : OldB W w) (L : List RV) (hL : ∀ r ∈ L, PlainR r) (hn : L.length ≤ 1000) : Rs (w.alloc (.cells (rvsL L).toArray 56)) (some ⟨w.heap.size, 0, none⟩) L :=
  ⟨Rd.of_row (heap_alloc_new w _) (by simp), fun r hr => (hL r hr).is _, fun r hr => (hL r hr).sz, by omega⟩
theorem rsSelf {w : World} {A : Option Addr} {L : List RV} (_ : Rs w A L) : OldB w w := Below.refl _ _
theorem Rs.old {w u : World} {A : Option Addr} {L : List RV} (h : Rs w A L) (hu : OldB w u) : Rs u A L := h.below hu
theorem hsame (r : RV) (h : PlainR r) (w : World) : Calls Tryz.prog 39 #[.agg (rvL r).toArray, .agg (rvL r).toArray] w fun e w' => e = .returned (.bool true) ∧ Below w.heap.size w w' := by
  have := rsamer_any r r w (h.is w) (h.is w) h.sz h.sz
  rwa [(sameR_iff _ _).2 rfl] at this
theorem cleanL_len (L : List Rc) (l : List RV) : (cleanL L l).length = l.length := by unfold cleanL; rw [List.length_map]
/-- what Clean hands back -/
theorem hclean (A : Option Addr) (n c : Nat) (l : List RV) (w : World) (hn : n = l.length) (h : Rs w A l) (ht : Tab w) :
    Calls Tryz.prog 21 #[.slice A n c] w fun e w' => (∃ A' c', e = .returned (.slice A' n c') ∧ Rs w' A' (cleanL (rcsC l) l) ∧ n ≤ c') ∧ Below w.heap.size w w' := by
  refine (clean_any A n c l w hn h ht).mono ?_
  rintro e w' ⟨v, rfl, ho, hb⟩
  obtain ⟨A', c', rfl, hr, hc⟩ := own_slG ho
  rw [cleanL_len, ← hn] at hc
  refine ⟨⟨A', c', by rw [cleanL_len, ← hn], ⟨hr, fun r hr => ?_, fun r hr => ?_, by rw [cleanL_len]; exact h.len⟩, hc⟩, hb⟩
  · obtain ⟨x, hx, rfl⟩ := List.mem_map.1 hr
    exact cleanR_is ((h.is x hx).below hb)
  · obtain ⟨x, hx, rfl⟩ := List.mem_map.1 hr
    exact cleanR_sz (h.sz x hx)
/-- .. and Forgotten -/
theorem hforgot (A : Option Addr) (n c : Nat) (l : List RV) (w : World) (hn : n = l.length) (h : Rs w A l) (ht : Tab w) :
    Calls Tryz.prog 18 #[.slice A n c] w fun e w' => (∃ A' c', e = .returned (.slice A' (forgotF (rcsC l)).length c') ∧ Rd w' A' (intsL (forgotF (rcsC l)))) ∧ Below w.heap.size w w' := by
  refine (forgotten_any A n c l w hn h ht).mono ?_
  rintro e w' ⟨v, rfl, ho, hb⟩
  obtain ⟨A', c', rfl, hr, hc⟩ := own_slG ho
  exact ⟨⟨A', c', rfl, hr⟩, hb⟩
theorem forgot_len (L : List Rc) : (forgotF L).length ≤ 60 := forgK_len L 60
end Go.Proofs.YtniklmikdkjgiaaGreatDoor
namespace Go.Proofs.YtniklmikdkjgiaaGreatDoor
open Go.RowKit

/-- append of the elements of a slice that reads as a list, which may be none -/
theorem wpList_appRS {P : Program} {ops : Array Oper} {rest : List Oper} {o : Oper} {a : Act} {Q : Exit → Act → World → Prop} {w : World} (hgd : o.guard = none) (s x : Operand) (t : TypeId)
    (ho : o.op = .call { callee := .builtin .append, args := #[s, x], argTypes := #[t, t] }) {e : TypeId} {z : Value} {size bytes : Nat}
    (ht : P.underlying t = some (.slice e)) (hinfo : (P.info? e).map (fun i => (i.zero, i.size, i.bytes)) = some (some z, size, bytes)) (hzs : z.cells.size = size) (hsz : 0 < size)
    (base : Nat) (v : Value) (n : Nat) (xs : List Value) (A : Option Addr) (m c : Nat) (news : List Value) (h1 : ∀ u ∈ news, u.oneCell' = true)
    (hs : a.eval s = v) (hx : a.eval x = .slice A m c) (hown : w.ownsRow base e size v n xs) (hr : Rd w A news) (hm : news.length = m * size) (hb : base ≤ w.heap.size)
    (hbytes : (n + m) * bytes ≤ 140737488355328) (hmax : n + m ≤ 9223372036854775807)
    (h : ∀ v' w', w'.ownsRow base e size v' (n + m) (xs ++ news) → Below base w w' → w.grownBy w' v.ownBlock → wpList P ops Q rest (a.put o.dst v') w') :
    wpList P ops Q (o :: rest) a w := by
  obtain ⟨i, hi, hz, hsi, hby⟩ := info_parts hinfo
  have nil_case : m = 0 → news = [] := fun h0 => List.eq_nil_of_length_eq_zero (by rw [hm, h0]; simp)
  cases A with
  | none =>
    have h0 : m = 0 := by
      rcases Nat.eq_zero_or_pos m with h0 | h0
      · exact h0
      · obtain ⟨b, off, e, _⟩ := hr (by rw [hm]; exact Nat.mul_pos h0 hsz); cases e
    obtain rfl := nil_case h0
    subst h0
    refine wpList_plain hgd fun K hK => ?_
    have hrun := run_append_none_ (P := P) w (ty := o.type) ht hi hown c
    unfold Oper.wp execOp
    simp only [ho, resolve, invoke, builtin, Sem.run_bind, Sem.run_pure, Result.andThen_ok, List.map_toArray, List.map_cons, List.map_nil, hs, hx, hrun]
    exact hK _ _ (h v w (by simpa using hown) (Below.refl _ _) (World.grownBy.refl _ _))
  | some ad =>
    refine wpList_append_own _ hgd s x t ho base e i z size bytes ht hi hz hsi hby hzs hsz v n xs hs hown ad m c news hx (by omega) ?_ h1 (by simpa [maxLen] using hmax) hbytes hb ?_
    · intro j u hu
      have hj := (List.getElem?_eq_some_iff.1 hu).1
      obtain ⟨b, off, e, _, hc⟩ := hr (by omega)
      cases e
      rw [Addr.add_lit]
      exact hc j u hu
    · intro v' w' hown' hg _
      exact h v' w' hown' (grown_below hg (fun k hk => (hown.lt k hk).1) hb) hg
theorem Rd.pfx {w : World} {A : Option Addr} {xs ys : List Value} (h : Rd w A xs) (hp : ys <+: xs) : Rd w A ys := fun h0 => by
  obtain ⟨t, rfl⟩ := hp
  obtain ⟨b, off, e, hb, hc⟩ := h (by rw [List.length_append]; omega)
  exact ⟨b, off, e, hb, fun i u hu => hc i u (by rw [List.getElem?_append_left (List.getElem?_eq_some_iff.1 hu).1]; exact hu)⟩
theorem Rs.take {w : World} {A : Option Addr} {l : List RV} (h : Rs w A l) (k : Nat) : Rs w A (l.take k) :=
  ⟨h.rd.pfx ⟨rvsL (l.drop k), by rw [← rvsL_app, List.take_append_drop]⟩, fun r hr => h.is r (List.mem_of_mem_take hr), fun r hr => h.sz r (List.mem_of_mem_take hr), by rw [List.length_take]; have := h.len; omega⟩
theorem own_empty21 (w : World) {cs : Array Value} (hcs : cs = #[]) (t : TypeId) : (w.alloc (.cells cs t)).ownsRow w.heap.size t 21 (.slice (some ⟨w.heap.size, 0, none⟩) 0 0) 0 (rvsL []) := by
  subst hcs
  exact ⟨rfl, .inr ⟨w.heap.size, 0, #[], rfl, Nat.le_refl _, heap_alloc_new w _, Nat.le_refl _, by simp [maxLen], by simp, by simp [rvsL]⟩⟩
theorem rvsL_oneC {l : List RV} (h : ∀ r ∈ l, ∃ w, RvIs w r) : ∀ u ∈ rvsL l, u.oneCell' = true := fun u hu => by
  obtain ⟨r, hr, hu⟩ := List.mem_flatMap.1 hu
  exact (Array.all_eq_true_iff_forall_mem.1 (rvL_one r (h r hr))) u (by simpa using hu)
theorem sameAll_eq {x y : List RV} (h : rcsC x = rcsC y) : all2 (fun a b => sameR a.c b.c) x y = true := by
  rw [← all2_map (f := sameR) RV.c RV.c, show x.map RV.c = y.map RV.c from h]
  exact sameRs_refl _
set_option maxHeartbeats 2000000 in
set_option maxRecDepth 100000 in
theorem in_any (A : Option Addr) (n c : Nat) (l : List Int) (x : Int) (w : World) (hn : n = l.length) (hl : n ≤ 1000000) (h : Rd w A (intsL l)) :
    Calls Tryz.prog 26 #[.slice A n c, .int .i64 x] w fun e w' => e = .returned (.bool (inI l x)) ∧ Below w.heap.size w w' := by
  have H := Lib.hid h
  have HN := Lib.hid hn
  clear h hn
  obtain ⟨R, hR⟩ : ∃ R, inI l x = R := ⟨_, rfl⟩
  have HR : Hid (R = inI (l.drop 0) x) := Lib.hid hR.symm
  rw [hR]
  clear hR
  go_enter Tryz.func26, Tryz.ntmps26
  go_wp2_with fail
  go_loopw [5] (fun s5 wr => ∃ k : Nat, k ≤ n ∧ s5 = .int .i64 (k : Int) ∧ Hid (R = inI (l.drop k) x) ∧ Hid (Below w.heap.size w wr)) (fun i _ => n - (intOf i).toNat)
  case atStart => exact ⟨0, Nat.zero_le _, rfl, HR, Lib.hid (Below.refl _ _)⟩
  case round =>
    clear HR
    obtain ⟨k, hkn, rfl, HR, BL⟩ := hrel
    by_cases hlt : k < n
    · have hkl : k < l.length := by rw [← HN.out]; exact hlt
      have d1 : (k : Int) < (n : Int) := by omega
      have d2 : (0 : Int) ≤ (k : Int) := by omega
      obtain ⟨b, off, rfl, hb, c0⟩ := ints_at (H.out.below BL.out) hkl
      have RK : Hid (R = ((l[k] == x) || inI (l.drop (k + 1)) x)) := Lib.hid (by rw [HR.out, List.drop_eq_getElem_cons hkl]; unfold inI; rw [List.any_cons])
      clear HR
      generalize l[k] = y at *
      by_cases he : y = x
      · have e1 : (y == x) = true := by rw [he]; simp
        have RT : Hid (R = true) := Lib.hid (by rw [RK.out, e1, Bool.true_or])
        clear RK he
        go_wp2_with fail
        go_ret
        exact ⟨by rw [RT.out]; rfl, BL.out⟩
      · have e1 : (y == x) = false := by simpa using he
        have R2 : Hid (R = inI (l.drop (k + 1)) x) := Lib.hid (by rw [RK.out, e1, Bool.false_or])
        clear RK he
        go_wp2_with fail
        exact ⟨⟨k + 1, by omega, by go_num, R2, BL⟩, by simp [intOf]; omega⟩
    · have d1 : ¬ (k : Int) < (n : Int) := by omega
      have RF : Hid (R = false) := Lib.hid (by rw [HR.out, List.drop_eq_nil_of_le (by rw [← HN.out]; omega)]; rfl)
      clear HR
      go_wp2_with fail
      go_ret
      exact ⟨by rw [RF.out]; rfl, BL.out⟩
set_option maxHeartbeats 2000000 in
set_option maxRecDepth 100000 in
theorem back_any (A : Option Addr) (n c : Nat) (l : List RV) (w : World) (hn : n = l.length) (hl : n ≤ 1000) (h : Rs w A l) :
    Calls Tryz.prog 25 #[.slice A n c] w fun e w' => ∃ v, e = .returned v ∧ w'.ownsRow w.heap.size 56 21 v n (rvsL l.reverse) ∧ Below w.heap.size w w' := by
  have H := Lib.hid h
  have HN := Lib.hid hn
  have ST : Hid (w.ownsRow w.heap.size 56 21 (.slice none 0 0) (n - n) (rvsL (l.drop n).reverse)) := Lib.hid (by rw [hn, List.drop_length, Nat.sub_self]; exact World.ownsRow_nil _ _ _ _)
  have B0 : Hid (Below w.heap.size w w) := Lib.hid (Below.refl _ _)
  clear h hn
  go_enter Tryz.func25, Tryz.ntmps25
  have k8 : IntKind.i64.wrap ((n : Int) - 1) = (n : Int) - 1 := IntWalk.i64_in _ (by omega)
  go_wp2_with fail
  go_loopw [3, 4] (fun s3 s4 wr => ∃ i : Int, -1 ≤ i ∧ i < (n : Int) ∧ s4 = .int .i64 i ∧ Hid (wr.ownsRow w.heap.size 56 21 s3 (n - (i + 1).toNat) (rvsL (l.drop (i + 1).toNat).reverse)) ∧ Hid (Below w.heap.size w wr)) (fun _ i _ => (intOf i + 1).toNat)
  case atStart => exact ⟨(n : Int) - 1, by omega, by omega, rfl, Lib.hid (by rw [show ((n : Int) - 1 + 1).toNat = n by omega]; exact ST.out), B0⟩
  case round =>
    clear ST B0 k8
    obtain ⟨i, hi1, hi2, rfl, OW, BL⟩ := hrel
    by_cases hp : 0 ≤ i
    · obtain ⟨j, rfl⟩ : ∃ j : Nat, i = (j : Int) := ⟨i.toNat, by omega⟩
      have hjl : j < l.length := by rw [← HN.out]; omega
      have d0 : decide ((0 : Int) ≤ (j : Int)) = true := by simp
      have d1 : (j : Int) < (n : Int) := hi2
      have d2 : (0 : Int) ≤ (j : Int) := by omega
      have kj : IntKind.i64.wrap ((j : Int) - 1) = (j : Int) - 1 := IntWalk.i64_in _ (by omega)
      obtain ⟨b, off, rfl, hb, hc⟩ := rvs_at (H.out.rd.below BL.out) hjl
      have HI := H.out.is l[j] (List.getElem_mem hjl)
      have HC : Hid (wr.rangeAt b (off + j * 21) (rvL l[j])) := Lib.hid (fun q v hq => hc q v hq)
      have TK : Hid ((l.drop j).reverse = (l.drop (j + 1)).reverse ++ [l[j]]) := Lib.hid (by rw [List.drop_eq_getElem_cons hjl, List.reverse_cons])
      have e1 : ((j : Int) + 1).toNat = j + 1 := by omega
      rw [e1] at OW
      generalize l[j] = x at *
      have ONE := Lib.hid (rvL_one x ⟨_, HI⟩)
      have SZ : Hid ((Tryz.prog.info? 56).map (·.size) = some (rvL x).length) := Lib.hid (by kernel_rfl)
      have bz := BL.out.size
      have NR : Hid ((rvL x).toArray.size = 1 * 21) := Lib.hid rfl
      generalize (l.drop (j + 1)).reverse = G at *
      clear hc HI e1 hi1 hp
      go_wp2_with (first
        | (refine wpList_load_mid rfl 56 (.tmp 15) rfl b (off + j * 21) rfl (rvL x) _ HC.out Tryz.underlying56 rfl SZ.out ?_)
        | (refine wpList_recs rfl [x] 1 _ rfl rfl (by decide) (by decide) (by kernel_rfl) ?_; rw [rvsL_one])
        | (at_builtin; refine wpList_appNG rfl (.tmp 12) (.tmp 17) 22 rfl Tryz.underlying22 info_rec rfl (by decide) w.heap.size _ (n - (j + 1)) (rvsL G) (rvL x).toArray 1 (by decide) NR.out (by intro y hy; exact (Array.all_eq_true_iff_forall_mem.1 ONE.out) y (by simpa using hy)) rfl rfl rfl OW.out bz (by omega) (by omega) ?_; intro g7 c7 w7 ho7 hg7 hl7 hb7))
      refine ⟨⟨(j : Int) - 1, by omega, by omega, rfl, ?_, Lib.hid (BL.out.trans hb7)⟩, by first | (simp [intOf]; done) | (simp [intOf]; omega)⟩
      rw [show ((j : Int) - 1 + 1).toNat = j by omega, TK.out, rvsL_app, rvsL_one]
      have : n - j = n - (j + 1) + 1 := by omega
      rw [this]
      exact Lib.hid ho7
    · have d0 : decide ((0 : Int) ≤ i) = false := by simpa using hp
      have e1 : (i + 1).toNat = 0 := by omega
      rw [e1, List.drop_zero, Nat.sub_zero] at OW
      clear hp e1
      go_wp2_with fail
      go_ret
      exact ⟨_, rfl, OW.out, BL.out⟩
theorem hback (A : Option Addr) (n c : Nat) (l : List RV) (w : World) (hn : n = l.length) (hl : n ≤ 1000) (h : Rs w A l) :
    Calls Tryz.prog 25 #[.slice A n c] w fun e w' => (∃ A' c', e = .returned (.slice A' n c') ∧ Rs w' A' l.reverse) ∧ Below w.heap.size w w' := by
  refine (back_any A n c l w hn hl h).mono ?_
  rintro e w' ⟨v, rfl, ho, hb⟩
  obtain ⟨A', c', rfl, hr, hc⟩ := own_slG ho
  exact ⟨⟨A', c', rfl, ⟨hr, fun r hr => (h.is r (List.mem_reverse.1 hr)).below hb, fun r hr => h.sz r (List.mem_reverse.1 hr), by rw [List.length_reverse]; exact h.len⟩⟩, hb⟩
end Go.Proofs.YtniklmikdkjgiaaGreatDoor
