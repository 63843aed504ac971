/- WALKS: slices.Insert at objects. -/
import Derived.Test.YtlejeelmlclnkaaGreatDoorBL
import Derived.OrdersHeld
import Derived.Deep.RegionHeld3
import Derived.Deep.DeepCutAuto
import Derived.Test.YtlejeelmlclnkaaGreatDoorWD
set_option linter.unusedSimpArgs false
set_option linter.unusedVariables false
namespace Go.Proofs.YtlejeelmlclnkaaGreatDoor
open Go.RowKit

theorem wpList_copyK {P : Program} {w : World} {ops : Array Oper} {rest : List Oper} {o : Oper} {a : Act} {Q : Exit → Act → World → Prop} (hgd : o.guard = none) (d s : Operand) (dT sT : TypeId)
    (ho : o.op = .call { callee := .builtin .copy, args := #[d, s], argTypes := #[dT, sT] }) (elem : TypeId) (k : Nat) (hu : P.underlying dT = some (.slice elem)) (hsz : (P.info? elem).map (·.size) = some k)
    (g off dLen dCap : Nat) (ad : Addr) (sLen sCap m : Nat) (hd : a.eval d = .slice (some ⟨g, off, none⟩) dLen dCap) (hs : a.eval s = .slice (some ad) sLen sCap)
    (cur : List Value) (t : TypeId) (hg : w.heap[g]? = some (.cells cur.toArray t (0, 0))) (cs : List Value) (hm : m = Nat.min sLen dLen) (hn : cs.length = m * k)
    (hsrc : ∀ j v, cs[j]? = some v → w.cell? (ad.add j) = some v) (hfit : off + cs.length ≤ cur.length) (h1 : ∀ v ∈ cs, v.oneCell' = true) (B : Nat) (hB : B ≤ g)
    (h : ∀ w', w'.heap[g]? = some (.cells (splice cur off cs).toArray t (0, 0)) → Below B w w' → (∀ b, b ≠ g → w'.heap[b]? = w.heap[b]?) → wpList P ops Q rest (a.put o.dst (goInt m)) w') : wpList P ops Q (o :: rest) a w := by
  refine wpList_plain hgd fun K hK => ?_
  have hrun := run_copyK (P := P) w dT sT o.type elem k g off dLen dCap ad sLen sCap m cur t cs hu hsz hg hm hn hsrc hfit h1
  unfold Oper.wp
  simp [execOp, ho, resolve, invoke, builtin, hd, hs, hrun, Result.andThen]
  exact hK _ _ (h _ (setRow_heap w g _ _ t _ hg) (below_setRow (Below.refl _ _) hB _) (fun b hb => setRow_other w g b _ hb))
theorem step_copyK {P : Program} {ops : Array Oper} {o : Oper} {a : Act} {w : World} {K : Act → World → Prop} {Q : Exit → Act → World → Prop} {E : Prop} (hgd : o.guard = none) (d s : Operand) (dT sT : TypeId)
    (ho : o.op = .call { callee := .builtin .copy, args := #[d, s], argTypes := #[dT, sT] }) (elem : TypeId) (k : Nat) (hu : P.underlying dT = some (.slice elem)) (hsz : (P.info? elem).map (·.size) = some k)
    (g off dLen dCap : Nat) (ad : Addr) (sLen sCap m : Nat) (hd : a.eval d = .slice (some ⟨g, off, none⟩) dLen dCap) (hs : a.eval s = .slice (some ad) sLen sCap)
    (cur : List Value) (t : TypeId) (hg : w.heap[g]? = some (.cells cur.toArray t (0, 0))) (cs : List Value) (hm : m = Nat.min sLen dLen) (hn : cs.length = m * k)
    (hsrc : ∀ j v, cs[j]? = some v → w.cell? (ad.add j) = some v) (hfit : off + cs.length ≤ cur.length) (h1 : ∀ v ∈ cs, v.oneCell' = true) (B : Nat) (hB : B ≤ g)
    (h : ∀ w', w'.heap[g]? = some (.cells (splice cur off cs).toArray t (0, 0)) → Below B w w' → (∀ b, b ≠ g → w'.heap[b]? = w.heap[b]?) → K (a.put o.dst (goInt m)) w') :
    if Region.wanted o (yielded ops a.tmps) = true then Oper.wp P o a w K Q else E := by
  have hw : Region.wanted o (yielded ops a.tmps) = true := by simp [Region.wanted, hgd]
  rw [if_pos hw]
  have hrun := run_copyK (P := P) w dT sT o.type elem k g off dLen dCap ad sLen sCap m cur t cs hu hsz hg hm hn hsrc hfit h1
  unfold Oper.wp
  simp [execOp, ho, resolve, invoke, builtin, hd, hs, hrun, Result.andThen]
  exact h _ (setRow_heap w g _ _ t _ hg) (below_setRow (Below.refl _ _) hB _) (fun b hb => setRow_other w g b _ hb)
def InsPost (w : World) (base : Nat) (v0 : Value) (l : List RO) (i : Nat) (x : RO) (e : Ending) (w' : World) : Prop :=
  ∃ v, e = .returned v ∧ w'.ownsRow base 43 6 v (l.length + 1) (rosC (l.take i ++ x :: l.drop i)) ∧ Below base w w' ∧ ∀ b, b < w.heap.size → v0.ownBlock ≠ some b → w'.heap[b]? = w.heap[b]?
theorem ob_size : (Tryz.prog.info? 43).map (·.size) = some 6 := by kernel_rfl
theorem rosC_take (l : List RO) (i : Nat) : rosC (l.take i) = (rosC l).take (i * 6) := by
  have h : rosC l = rosC (l.take i) ++ rosC (l.drop i) := by rw [← rosC_app, List.take_append_drop]
  rcases Nat.lt_or_ge i l.length with h1 | h1
  · rw [h]; exact (List.take_left' (by rw [rosC_len, List.length_take]; omega)).symm
  · rw [List.take_of_length_le h1, List.take_of_length_le (by rw [rosC_len]; omega)]
theorem rosC_drop (l : List RO) (i : Nat) : rosC (l.drop i) = (rosC l).drop (i * 6) := by
  have h : rosC l = rosC (l.take i) ++ rosC (l.drop i) := by rw [← rosC_app, List.take_append_drop]
  rcases Nat.lt_or_ge i l.length with h1 | h1
  · rw [h]; exact (List.drop_left' (by rw [rosC_len, List.length_take]; omega)).symm
  · rw [List.drop_eq_nil_of_le h1, List.drop_eq_nil_of_le (by rw [rosC_len]; omega)]; rfl
theorem rosC_ins (l : List RO) (i : Nat) (x : RO) : rosC (l.take i ++ x :: l.drop i) = (rosC l).take (i * 6) ++ (rosC [x] ++ (rosC l).drop (i * 6)) := by
  rw [show x :: l.drop i = [x] ++ l.drop i from rfl, rosC_app, rosC_app, rosC_take, rosC_drop]
theorem ins_take {C D : List Value} {l : List RO} {x : RO} {i n : Nat} (hx : (rosC [x]).length = 6) (hD : (rosC l).drop (i * 6) = D) (hC : C.take (n * 6) = rosC l) (hl : (rosC l).length = n * 6) (hc : (n + 1) * 6 ≤ C.length) (hi : i ≤ n) :
    (splice (splice C ((i + 1) * 6) D) (i * 6) (rosC [x])).toArray.toList.take ((n + 1) * 6) = rosC (l.take i ++ x :: l.drop i) := by
  have hDl : D.length = n * 6 - i * 6 := by rw [← hD, List.length_drop, hl]
  have e1 : (i + 1) * 6 = i * 6 + (rosC [x]).length := by rw [hx]; omega
  have e2 : (n + 1) * 6 = i * 6 + (rosC [x]).length + D.length := by rw [hx, hDl]; omega
  rw [List.toList_toArray, e1, e2, take_splice3 _ _ _ _ (by rw [← e2]; exact hc), rosC_ins, hD]
  congr 1
  rw [← hC, List.take_take, Nat.min_eq_left (by omega)]
theorem ins_take2 {C D : List Value} {l : List RO} {x : RO} {i n : Nat} (hx : (rosC [x]).length = 6) (hD : (rosC l).drop (i * 6) = D) (hC : C.take (i * 6) = (rosC l).take (i * 6)) (hl : (rosC l).length = n * 6) (hc : (n + 1) * 6 ≤ C.length) (hi : i ≤ n) :
    (splice (splice C (i * 6) (rosC [x])) ((i + 1) * 6) D).toArray.toList.take ((n + 1) * 6) = rosC (l.take i ++ x :: l.drop i) := by
  have hDl : D.length = n * 6 - i * 6 := by rw [← hD, List.length_drop, hl]
  have e1 : (i + 1) * 6 = i * 6 + (rosC [x]).length := by rw [hx]; omega
  have e2 : (n + 1) * 6 = i * 6 + (rosC [x]).length + D.length := by rw [hx, hDl]; omega
  rw [List.toList_toArray, e1, e2, take_splice2 _ _ _ _ (by rw [← e2]; exact hc), rosC_ins, hD, hC]
set_option maxHeartbeats 4000000 in
set_option maxRecDepth 100000 in
theorem insert_any (base vb i n : Nat) (v : Value) (l : List RO) (x : RO) (w : World) (hn : n = l.length) (hi : i ≤ n) (hl : n ≤ 100000) (hb : base ≤ w.heap.size) (hown : w.ownsRow base 43 6 v n (rosC l))
    (ho : ∀ r ∈ l, ObIs w r) (hx : ObIs w x) (hv : w.heap[vb]? = some (.cells (roC x).toArray 43 (0, 0))) (hne : v.ownBlock ≠ some vb) :
    Calls Tryz.prog 66 #[v, .int .i64 (i : Int), .slice (some ⟨vb, 0, none⟩) 1 1] w (InsPost w base v l i x) := by
  have HO := Lib.hid (ros_one ho)
  have HX1 : Hid (∀ u ∈ rosC [x], u.oneCell' = true) := Lib.hid (ros_one (l := [x]) (fun r hr => by rw [List.mem_singleton.1 hr]; exact hx))
  have EX : rosC [x] = roC x := by simp [rosC]
  have RV : Hid (Rd w (some ⟨vb, 0, none⟩) (rosC [x])) := Lib.hid (Rd.of_row hv (by rw [EX]; exact List.prefix_refl _))
  have LX : (rosC [x]).length = 6 := by rw [rosC_len]; rfl
  have HN := Lib.hid hn
  have HV := Lib.hid hv
  have LL : Hid ((rosC l).length = n * 6) := Lib.hid (by rw [rosC_len, hn])
  have OW := Lib.hid hown
  have IP : ∀ (v' : Value) (w' : World), w'.ownsRow base 43 6 v' (n + 1) (rosC (l.take i ++ x :: l.drop i)) → Below base w w' → (∀ b, b < w.heap.size → v.ownBlock ≠ some b → w'.heap[b]? = w.heap[b]?) → InsPost w base v l i x (.returned v') w' := fun v' w' h1 h2 h3 => ⟨v', rfl, by rw [← HN.out]; exact h1, h2, h3⟩
  have IPH := Lib.hid IP
  have EQE : Hid (i = n → rosC (l.take i ++ x :: l.drop i) = rosC l ++ rosC [x]) := Lib.hid (fun e => by
    rw [List.take_of_length_le (by rw [← HN.out]; omega), List.drop_eq_nil_of_le (by rw [← HN.out]; omega), rosC_app])
  clear hv ho hx hn IP
  generalize InsPost w base v l i x = QQ at *
  rcases hown.2 with ⟨rfl, h0⟩ | ⟨g, c, cur, rfl, hg, hh, hnc, hcm, hcs, htk⟩
  · clear hown
    have i0 : i = 0 := by omega
    have n0 : n = 0 := h0
    subst n0
    subst i0
    have E2 := Lib.hid (EQE.out rfl)
    go_enter Tryz.func66, Tryz.ntmps66
    go_wp2_with (at_builtin; refine wpList_appRS rfl (.tmp 23) (.tmp 24) 22 rfl Tryz.underlying22 info_ob rfl (by decide) base _ 0 _ _ 1 1 (rosC [x]) HX1.out rfl rfl OW.out RV.out LX hb (by omega) (by omega) ?_; intro v6 w6 hown6 hb6 hg6)
    refine IPH.out _ _ ?_ hb6 (fun b hb' hne' => hg6.block b hb' (fun e => hne' e.symm))
    rw [E2.out]; exact hown6
  · have HG := Lib.hid hh
    have TK := Lib.hid htk
    have cm : (c : Int) ≤ 9223372036854775807 := by unfold maxLen at hcm; omega
    clear hown hh htk
    by_cases hin : i = n
    · subst hin
      have E2 := Lib.hid (EQE.out rfl)
      rcases Classical.propComplete (c = i) with z | z
      all_goals
        go_enter Tryz.func66, Tryz.ntmps66
        go_wp2_with (at_builtin; refine wpList_appRS rfl (.tmp 23) (.tmp 24) 22 rfl Tryz.underlying22 info_ob rfl (by decide) base _ i _ _ 1 1 (rosC [x]) HX1.out rfl rfl OW.out RV.out LX hb (by omega) (by omega) ?_; intro v6 w6 hown6 hb6 hg6)
        refine IPH.out _ _ ?_ hb6 (fun b hb' hne' => hg6.block b hb' (fun e => hne' e.symm))
        rw [E2.out]; exact hown6
    · have z1 : ¬ ((i : Int) = (n : Int)) := by omega
      have z1b : ((i : Int) == (n : Int)) = false := by simp; omega
      have z2 : ¬ (c = i) := by omega
      have z3 : i < n := by omega
      by_cases hroom : n + 1 ≤ c
      · have z4 : ¬ (c = i + 1) := by omega
        have z5 : ¬ (c : Int) < (n : Int) + 1 := by omega
        have w1 : IntKind.i64.wrap ((n : Int) + 1) = (n : Int) + 1 := IntWalk.i64_in _ (by omega)
        have w2 : IntKind.i64.wrap ((i : Int) + 1) = (i : Int) + 1 := IntWalk.i64_in _ (by omega)
        have y1 : (0 : Int) ≤ (i : Int) + 1 := by omega
        have y3 : (i : Int) ≤ (n : Int) := by omega
        have y2 : (i : Int) + 1 ≤ (n : Int) + 1 := by omega
        have y4 : (i : Int) ≤ (n : Int) + 1 := by omega
        have hvl : vb < w.heap.size := by
          rcases Nat.lt_or_ge vb w.heap.size with h' | h'
          · exact h'
          · have := HV.out; rw [Array.getElem?_eq_none h'] at this; cases this
        have hgv : vb ≠ g := fun e => hne (by rw [e]; rfl)
        have hov : (callFunc 104 #[.slice (some ⟨vb, 0, none⟩) 1 1, .slice (some ⟨g, (i + 1) * 6, none⟩) (n - i) (c - (i + 1))]).run Tryz.prog w = .ok (.value (.bool false)) w := by
          rw [run_callFunc_extern Tryz.func104 (by kernel_rfl) (by kernel_rfl) (by kernel_rfl) (e := Extern.SlicesOverlaps.overlaps #[22, 22] #[4]) (by kernel_rfl),
            Lib.run_overlaps_apart w 22 4 43 Tryz.underlying22 6 Tryz.sizeOf43 ⟨vb, 0, none⟩ ⟨g, (i + 1) * 6, none⟩ 1 1 _ _ hgv 43 43 6 (c * 6) (by simp [World.shape?, HV.out, roC]) (by simp [World.shape?, HG.out, hcs]) (by omega) (free_blk HV.out _) (free_blk HV.out _)]
          rfl
        have HG1 : Hid (w.drew.heap[g]? = some (.cells cur.toList.toArray 43 (0, 0))) := Lib.hid (by rw [Array.toArray_toList]; exact HG.out)
        have CL : cur.toList.length = c * 6 := by rw [Array.length_toList, hcs]
        have DL : Hid (((rosC l).drop (i * 6)).length = (n - i) * 6) := Lib.hid (by rw [List.length_drop, LL.out, Nat.sub_mul])
        have SRC : Hid (∀ j u, ((rosC l).drop (i * 6))[j]? = some u → w.drew.cell? ((⟨g, i * 6, none⟩ : Addr).add j) = some u) := Lib.hid (fun j u hu => by
          rw [Addr.add_lit]
          rw [List.getElem?_drop, ← TK.out, List.getElem?_take] at hu
          split at hu
          · exact (cell_of_row w g (i * 6 + j) _ _ _ HG.out).trans (by simpa using hu)
          · cases hu)
        have DO : Hid (∀ u ∈ (rosC l).drop (i * 6), u.oneCell' = true) := Lib.hid (fun u hu => HO.out u (List.mem_of_mem_drop hu))
        have MN1 : Hid (n - i = Nat.min (n + 1 - i) (n - i)) := Lib.hid (by show n - i = min (n + 1 - i) (n - i); omega)
        have MN2 : Hid (1 = Nat.min 1 (n + 1 - i)) := Lib.hid (by show 1 = min 1 (n + 1 - i); omega)
        have FIT1 : (i + 1) * 6 + ((rosC l).drop (i * 6)).length ≤ cur.toList.length := by rw [DL.out, CL]; omega
        generalize hD : (rosC l).drop (i * 6) = D at *
        have HD := Lib.hid hD
        generalize hC : cur.toList = C at *
        have HC := Lib.hid hC
        clear hD hC
        go_enter Tryz.func66, Tryz.ntmps66
        go_wp2_with (simp only [hov])
        (refine wp_region_noPanic ?_; refine wp_region_held_drew (S := (fun _ => True)) (by kernel_rfl) ?_ (fun hHeld => ?_); exact trivial)
        (refine tkW 0 ?_; try simp only [gmS])
        (refine tkW 1 ?_; try simp only [gmS])
        (refine tkW 2 ?_; try simp only [gmS])
        (refine tkW 3 ?_; try simp only [gmS])
        (refine tkW 4 ?_; try simp only [gmS])
        (refine tkW 5 ?_; try simp only [gmS])
        (refine tkW 6 ?_; try simp only [gmS])
        (refine tkW 7 ?_; try simp only [gmS])
        (refine rdW 8 (fun K hK => ?_))
        refine step_copyK rfl (.tmp 73) (.tmp 76) 22 22 rfl 43 6 Tryz.underlying22 ob_size g ((i + 1) * 6) (n - i) (c - (i + 1)) ⟨g, i * 6, none⟩ (n + 1 - i) (c - i) (n - i) rfl rfl C 43 HG1.out D MN1.out DL.out SRC.out FIT1 DO.out base hg ?_
        intro w7 h7 b7 o7
        have H7 := Lib.hid h7
        have B7 := Lib.hid ((show Below base w w.drew from belowDD (Below.refl _ _)).trans b7)
        have O7 : Hid (∀ b, b ≠ g → w7.heap[b]? = w.heap[b]?) := Lib.hid o7
        have HV7 : Hid (w7.heap[vb]? = some (.cells (roC x).toArray 43 (0, 0))) := Lib.hid ((o7 vb hgv).trans HV.out)
        clear h7 b7 o7
        (refine hK.out _ _ trivial (fun hHeld2 => ?_); clear hK K hHeld; have hHeld := hHeld2; clear hHeld2; try simp only [gmS])
        (refine wpAnyH_done (by kernel_rfl) ?_ _; refine NoPanic.normal ?_)
        clear hHeld hov HG1 SRC
        have SX : Hid (∀ j u, (rosC [x])[j]? = some u → w7.cell? ((⟨vb, 0, none⟩ : Addr).add j) = some u) := Lib.hid (fun j u hu => by
          rw [Addr.add_lit, Nat.zero_add]
          rw [EX] at hu
          exact (cell_of_row w7 vb j _ _ _ HV7.out).trans (by simpa using hu))
        have FIT2 : i * 6 + (rosC [x]).length ≤ (splice C ((i + 1) * 6) D).length := by rw [LX, length_splice _ _ _ FIT1, CL]; omega
        generalize hS : splice C ((i + 1) * 6) D = S1 at *
        have HS := Lib.hid hS
        clear hS
        have hcp := run_copyK (P := Tryz.prog) w7 22 22 3 43 6 g (i * 6) (n + 1 - i) (c - i) ⟨vb, 0, none⟩ 1 1 1 S1 43 (rosC [x]) Tryz.underlying22 ob_size H7.out MN2.out LX SX.out FIT2 HX1.out
        have h8 := setRow_heap w7 g _ (splice S1 (i * 6) (rosC [x])).toArray _ _ H7.out
        have b8 : Below base w7 (w7.setRow g (splice S1 (i * 6) (rosC [x])).toArray) := below_setRow (Below.refl _ _) hg _
        have O8 : Hid (∀ b, b ≠ g → (w7.setRow g (splice S1 (i * 6) (rosC [x])).toArray).heap[b]? = w7.heap[b]?) := Lib.hid (fun b hb' => setRow_other w7 g b _ hb')
        generalize w7.setRow g (splice S1 (i * 6) (rosC [x])).toArray = w8 at *
        have H8 := Lib.hid h8
        have B8 := Lib.hid b8
        clear h8 b8
        go_wp2_with fail
        refine IPH.out _ _ ⟨?_, .inr ⟨g, c, _, rfl, hg, H8.out, hroom, hcm, ?_, ?_⟩⟩ (B7.out.trans B8.out) (fun b _ hb' => (O8.out b (fun e => hb' (by rw [e]; rfl))).trans (O7.out b (fun e => hb' (by rw [e]; rfl))))
        · rw [rosC_len, List.length_append, List.length_cons, List.length_take, List.length_drop, ← HN.out]; omega
        · rw [List.size_toArray, length_splice _ _ _ FIT2, ← HS.out, length_splice _ _ _ FIT1, CL]
        · rw [← HS.out]
          exact ins_take (by rw [EX]; rfl) HD.out TK.out LL.out (by rw [CL]; omega) (by omega)
      · have hcn : c = n := by omega
        subst hcn
        have z5 : (c : Int) < (c : Int) + 1 := by omega
        have w1 : IntKind.i64.wrap ((c : Int) + 1) = (c : Int) + 1 := IntWalk.i64_in _ (by omega)
        have w2 : IntKind.i64.wrap ((i : Int) + 1) = (i : Int) + 1 := IntWalk.i64_in _ (by omega)
        have w3 : IntKind.i64.wrap ((c : Int) + 1 - (i : Int)) = (c : Int) + 1 - (i : Int) := IntWalk.i64_in _ (by omega)
        have y1 : (0 : Int) ≤ (i : Int) + 1 := by omega
        have y3 : (i : Int) ≤ (c : Int) := by omega
        have hkk : (c : Int) + 1 - (i : Int) = ((c + 1 - i : Nat) : Int) := by omega
        have hik : i + (c + 1 - i) = c + 1 := by omega
        have hgv : vb ≠ g := fun e => hne (by rw [e]; rfl)
        have hlt : ∀ b x', w.heap[b]? = some x' → b < w.heap.size := fun b x' hx' => by
          rcases Nat.lt_or_ge b w.heap.size with h' | h'
          · exact h'
          · rw [Array.getElem?_eq_none h'] at hx'; cases hx'
        have hvl := hlt _ _ HV.out
        have hgl := hlt _ _ HG.out
        obtain ⟨i0, hi0, hz0, hzs, hzb⟩ := info_parts info_ob
        have TKL : ((rosC l).take (i * 6)).length = i * 6 := by rw [List.length_take, LL.out]; omega
        have hold : (Builtin.firstCells i0.size i (.slice (some ⟨g, 0, none⟩) i c)).run Tryz.prog w.drew = .ok ((rosC l).take (i * 6)).toArray w.drew := by
          rw [hzs]
          refine run_firstCells_some w.drew 6 i ⟨g, 0, none⟩ i c _ TKL (fun j u hu => ?_)
          rw [Addr.add_lit, Nat.zero_add]
          rw [List.getElem?_take] at hu
          split at hu
          · rw [← TK.out, List.getElem?_take] at hu
            split at hu
            · exact (cell_of_row w g j _ _ _ HG.out).trans (by simpa using hu)
            · cases hu
          · cases hu
        obtain ⟨G, hG⟩ : ∃ G, G = grownCap w (c + 1) c 43 := ⟨_, rfl⟩
        have hGn : c + 1 ≤ G := by rw [hG]; exact grownCap_ge w _ _ _
        have hGm : G ≤ maxLen := by rw [hG]; exact grownCap_le_maxLen w (c + 1) c _ (by unfold maxLen; omega)
        obtain ⟨ROW, hROW⟩ : ∃ ROW : Array Value, ROW = ((rosC l).take (i * 6)).toArray ++ Builtin.zeroCells (Value.agg #[.string .empty, .int .i64 0, .int .i64 0, .int .i64 0, .slice none 0 0, .slice none 0 0]).cells (c + 1 - i) ++ Builtin.zeroCells (Value.agg #[.string .empty, .int .i64 0, .int .i64 0, .int .i64 0, .slice none 0 0, .slice none 0 0]).cells (G - (c + 1)) := ⟨_, rfl⟩
        have hRL : ROW.toList.length = G * 6 := by
          rw [Array.length_toList, hROW]
          simp only [Array.size_append, List.size_toArray, TKL, size_zeroCells]
          have : (Value.agg #[.string .empty, .int .i64 0, .int .i64 0, .int .i64 0, .slice none 0 0, .slice none 0 0]).cells.size = 6 := rfl
          rw [this]; omega
        have hRT : ROW.toList.take (i * 6) = (rosC l).take (i * 6) := by
          rw [hROW, Array.append_assoc, Array.toList_append, List.toList_toArray]
          exact List.take_left' TKL
        have hrz : ∀ ty, (Builtin.append_ #[22, 3] ty #[.slice (some ⟨g, 0, none⟩) i c, .int .i64 ((c : Int) + 1 - (i : Int))]).run Tryz.prog w =
            .ok (.slice (some ⟨w.heap.size, 0, none⟩) (c + 1) G) (w.drew.alloc (.cells ROW 43)) := fun ty => by
          have h := Lib.run_append_grow_zeros w 22 3 ty 43 i0 _ .i64 .i64 Tryz.underlying22 Tryz.underlying3 hi0 hz0 (some ⟨g, 0, none⟩) i c _ hold (c + 1 - i) (by omega) (by omega) (by omega) (by omega) (by rw [hzb]; omega) (by rw [hzb, hik]; exact growslice_fits (by omega) (by omega))
          rw [hik] at h
          rw [hkk, hROW, hG]
          exact h
        obtain ⟨W1, hW1⟩ : ∃ W1, W1 = w.drew.alloc (.cells ROW 43) := ⟨_, rfl⟩
        rw [← hW1] at hrz
        have HR1 : Hid (W1.heap[w.heap.size]? = some (.cells ROW.toList.toArray 43 (0, 0))) := Lib.hid (by rw [hW1, Array.toArray_toList]; exact heap_alloc_new w.drew _)
        have B1 : Hid (Below w.heap.size w W1) := Lib.hid (by rw [hW1]; exact (belowDD (Below.refl _ _)).alloc (Nat.le_refl _) _)
        have CL : ROW.toList.length = G * 6 := hRL
        have DL : Hid (((rosC l).drop (i * 6)).length = (c - i) * 6) := Lib.hid (by rw [List.length_drop, LL.out, Nat.sub_mul])
        have DO : Hid (∀ u ∈ (rosC l).drop (i * 6), u.oneCell' = true) := Lib.hid (fun u hu => HO.out u (List.mem_of_mem_drop hu))
        have MN1 : Hid (1 = Nat.min 1 (c + 1 - i)) := Lib.hid (by show 1 = min 1 (c + 1 - i); omega)
        have MN2 : Hid (c - i = Nat.min (c - i) (c - i)) := Lib.hid (by show c - i = min (c - i) (c - i); omega)
        have SX : Hid (∀ j u, (rosC [x])[j]? = some u → W1.cell? ((⟨vb, 0, none⟩ : Addr).add j) = some u) := Lib.hid (fun j u hu => by
          rw [Addr.add_lit, Nat.zero_add]
          rw [EX] at hu
          exact (cell_of_row W1 vb j _ _ _ ((B1.out.block vb hvl).trans HV.out)).trans (by simpa using hu))
        have SRC : Hid (∀ j u, ((rosC l).drop (i * 6))[j]? = some u → w.cell? ((⟨g, i * 6, none⟩ : Addr).add j) = some u) := Lib.hid (fun j u hu => by
          rw [Addr.add_lit]
          rw [List.getElem?_drop, ← TK.out, List.getElem?_take] at hu
          split at hu
          · exact (cell_of_row w g (i * 6 + j) _ _ _ HG.out).trans (by simpa using hu)
          · cases hu)
        have FIT1 : i * 6 + (rosC [x]).length ≤ ROW.toList.length := by rw [LX, CL]; omega
        have hGi : ¬ (G = i) := by omega
        have hGim : ¬ (G = i + 1) := by omega
        have hb1 : base ≤ w.heap.size := hb
        generalize hD : (rosC l).drop (i * 6) = D at *
        have HD := Lib.hid hD
        generalize hC : ROW.toList = C at *
        have HC := Lib.hid hRT
        have hrz2 := hrz
        clear hD hC hrz hRT hRL hROW hG hold TKL hW1 hik hkk
        have HRZ := Lib.hid hrz2
        clear hrz2
        have y5 : (i : Int) + 1 ≤ (c : Int) + 1 := by omega
        have y6 : (i : Int) ≤ (c : Int) + 1 := by omega
        have hgW : g ≠ w.heap.size := by omega
        go_enter Tryz.func66, Tryz.ntmps66
        have hcp := run_copyK (P := Tryz.prog) W1 22 22 3 43 6 w.heap.size (i * 6) (c + 1 - i) (G - i) ⟨vb, 0, none⟩ 1 1 1 C 43 (rosC [x]) Tryz.underlying22 ob_size HR1.out MN1.out LX SX.out FIT1 HX1.out
        have hq := setRow_heap W1 w.heap.size _ (splice C (i * 6) (rosC [x])).toArray _ _ HR1.out
        have bq : Below base W1 (W1.setRow w.heap.size (splice C (i * 6) (rosC [x])).toArray) := below_setRow (Below.refl _ _) hb _
        have oq : ∀ b, b ≠ w.heap.size → (W1.setRow w.heap.size (splice C (i * 6) (rosC [x])).toArray).heap[b]? = W1.heap[b]? := fun b hb' => setRow_other W1 _ b _ hb'
        generalize W1.setRow w.heap.size (splice C (i * 6) (rosC [x])).toArray = wq at *
        have HQ := Lib.hid hq
        have BQ := Lib.hid bq
        have OQ := Lib.hid oq
        clear hq bq oq
        go_wp2_with (at_builtin; refine Lib.wpList_append_run _ rfl _ _ _ _ rfl _ _ rfl rfl _ _ (HRZ.out _) ?_)
        have H2 := Lib.hid (show wq.drew.heap[w.heap.size]? = _ from HQ.out)
        have B2 := Lib.hid (show Below base w wq from (Below.mono B1.out hb).trans BQ.out)
        have SRC2 : Hid (∀ j u, D[j]? = some u → wq.drew.cell? ((⟨g, i * 6, none⟩ : Addr).add j) = some u) := Lib.hid (fun j u hu => by
          have := SRC.out j u hu
          rw [Addr.add_lit] at this ⊢
          exact (World.cell?_of_block (w := w) (w' := wq.drew) (a := ⟨g, i * 6 + j, none⟩) ((OQ.out g hgW).trans (B1.out.block g hgl))).trans this)
        have FIT2 : (i + 1) * 6 + D.length ≤ (splice C (i * 6) (rosC [x])).length := by rw [DL.out, length_splice _ _ _ FIT1, CL]; omega
        generalize hS : splice C (i * 6) (rosC [x]) = S1 at *
        have HS := Lib.hid hS
        clear hS hcp HQ BQ HRZ SRC SX HR1
        (refine wp_region_noPanic ?_; refine wp_region_held_drew (S := (fun _ => True)) (by kernel_rfl) ?_ (fun hHeld => ?_); exact trivial)
        (refine tkW 0 ?_; try simp only [gmS])
        (refine tkW 1 ?_; try simp only [gmS])
        (refine tkW 2 ?_; try simp only [gmS])
        (refine tkW 3 ?_; try simp only [gmS])
        (refine tkW 4 ?_; try simp only [gmS])
        (refine tkW 5 ?_; try simp only [gmS])
        (refine tkW 6 ?_; try simp only [gmS])
        (refine tkW 7 ?_; try simp only [gmS])
        (refine rdW 8 (fun K hK => ?_))
        refine step_copyK rfl (.tmp 50) (.tmp 53) 22 22 rfl 43 6 Tryz.underlying22 ob_size w.heap.size ((i + 1) * 6) (c - i) (G - (i + 1)) ⟨g, i * 6, none⟩ (c - i) (c - i) (c - i) rfl rfl S1 43 H2.out D MN2.out DL.out SRC2.out FIT2 DO.out base hb ?_
        intro w7 h7 b7 o7
        have H7 := Lib.hid h7
        have B7 := Lib.hid (B2.out.trans ((show Below base wq wq.drew from belowDD (Below.refl _ _)).trans b7))
        have O7 : Hid (∀ b, b < w.heap.size → w7.heap[b]? = w.heap[b]?) := Lib.hid (fun b hb' => (o7 b (by omega)).trans ((OQ.out b (by omega)).trans (B1.out.block b hb')))
        clear h7 b7 o7
        (refine hK.out _ _ trivial (fun hHeld2 => ?_); clear hK K hHeld; have hHeld := hHeld2; clear hHeld2; try simp only [gmS])
        (refine wpAnyH_done (by kernel_rfl) ?_ _; refine NoPanic.normal ?_)
        clear hHeld
        go_wp2_with fail
        refine IPH.out _ _ ⟨?_, .inr ⟨w.heap.size, G, _, rfl, hb, H7.out, hGn, hGm, ?_, ?_⟩⟩ B7.out (fun b hb' _ => O7.out b hb')
        · rw [rosC_len, List.length_append, List.length_cons, List.length_take, List.length_drop, ← HN.out]; omega
        · rw [List.size_toArray, length_splice _ _ _ FIT2, ← HS.out, length_splice _ _ _ FIT1, CL]
        · rw [← HS.out]
          exact ins_take2 (by rw [EX]; rfl) HD.out HC.out LL.out (by rw [CL]; omega) (by omega)
end Go.Proofs.YtlejeelmlclnkaaGreatDoor
