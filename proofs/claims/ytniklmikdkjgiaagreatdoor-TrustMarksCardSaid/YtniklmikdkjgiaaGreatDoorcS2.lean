import Derived.Test.YtniklmikdkjgiaaGreatDoorcS1
set_option linter.all false
set_option maxHeartbeats 16000000
set_option maxRecDepth 100000
namespace Go.Proofs.YtniklmikdkjgiaaGreatDoor
open Go.RowKit Go.Shelf Go.Maps Go.ChangeMaps Go.MapKept Go.WideShapes Go.WideMaps
attribute [local go_sem] Oper.semAt_some
def zerosW (bo n : Nat) (w : World) : Nat := ((List.range n).filter fun i => match w.cell? ⟨bo, i, none⟩ with | some (.int _ v) => decide (v = 0) | _ => false).length
theorem zerosW_eq {w : World} {p : GP} {d : GD} {bo bx bn q1 q2 r : Nat} {L : List Int} (h : LvI w p d bo bx bn q1 q2 r L) : zerosW bo d.n w = zerosL d.n L := by
  unfold zerosW zerosL
  congr 1
  apply List.filter_congr
  intro i hi
  rw [ints_cell h.out (by rw [h.rep.len]; exact List.mem_range.1 hi)]
def cntU (C : Nat → Nat → Bool) (L : List Int) (i j : Nat) : Nat := ((List.range j).filter fun k => decide (0 < L.getD k 0) && C k i).length
theorem cntU_succ (C : Nat → Nat → Bool) (L : List Int) (i j : Nat) : cntU C L i (j + 1) = cntU C L i j + if (decide (0 < L.getD j 0) && C j i) = true then 1 else 0 := by
  unfold cntU
  rw [List.range_succ, List.filter_append, List.length_append]
  congr 1
  by_cases h : (decide (0 < L.getD j 0) && C j i) = true
  · rw [if_pos h, List.filter_cons, if_pos h]; rfl
  · rw [if_neg h, List.filter_cons, if_neg h]; rfl
theorem cntU_le (C : Nat → Nat → Bool) (L : List Int) (i j : Nat) : cntU C L i j ≤ j := by
  have := List.length_filter_le (fun k => decide (0 < L.getD k 0) && C k i) (List.range j)
  rwa [List.length_range] at this
def frU (C : Nat → Nat → Bool) (N : Nat → Int) (n : Nat) (L : List Int) (k : Nat) : List Nat := (List.range k).filter fun i => decide (L.getD i 0 = 0) && decide (N i ≤ (cntT C n L i : Int))
theorem frU_succ (C : Nat → Nat → Bool) (N : Nat → Int) (n : Nat) (L : List Int) (k : Nat) : frU C N n L (k + 1) = frU C N n L k ++ if (decide (L.getD k 0 = 0) && decide (N k ≤ (cntT C n L k : Int))) = true then [k] else [] := by
  unfold frU
  rw [List.range_succ, List.filter_append]
  congr 1
  by_cases h : (decide (L.getD k 0 = 0) && decide (N k ≤ (cntT C n L k : Int))) = true
  · rw [if_pos h, List.filter_cons, if_pos h]; rfl
  · rw [if_neg h, List.filter_cons, if_neg h]; rfl
theorem frU_le (C : Nat → Nat → Bool) (N : Nat → Int) (n : Nat) (L : List Int) (k : Nat) : (frU C N n L k).length ≤ k := by
  have := List.length_filter_le (fun i => decide (L.getD i 0 = 0) && decide (N i ≤ (cntT C n L i : Int))) (List.range k)
  rwa [List.length_range] at this
theorem natsL_app (a b : List Nat) : natsL (a ++ b) = natsL a ++ natsL b := List.map_append
theorem rounds1_any (l : Nat) (p : GP) (d : GD) (bo bx bn q1 q2 : Nat) (J : Nat → List Int → World → Prop) (W : World) (hJ : ∀ r L A, J r L A → LvI A p d bo bx bn q1 q2 r L) (hB : ∀ r L A B, J r L A → Below W.heap.size A B → J r L B) (hW : ∀ r L A, J r L A → W.heap.size ≤ A.heap.size)
    (hY : ∀ r L v A, J r L A → freshT d.C d.need d.n L ≠ [] → SlIs A v (freshT d.C d.need d.n L).length (natsL (freshT d.C d.need d.n L)) → (∀ g, v.ownBlock = some g → W.heap.size ≤ g) → YieldAt Fence.wide 2 Tryz.prog l #[v] A fun e A' => e = .returned (.bool true) ∧ J (r + 1) (setsL L ((r : Int) + 2) (freshT d.C d.need d.n L)) A')
    (r0 : Nat) (L0 : List Int) (h0 : J r0 L0 W) (hn : d.n ≤ 1000) :
    CallsIn Fence.wide 3 Tryz.prog 158 #[.func (.yield l) #[] #[], .pointer (some ⟨q1, 0, none⟩), .pointer (some ⟨q2, 0, none⟩)] W fun e W' => (∃ v, e = .returned v) ∧ ∃ r L, J r L W' ∧ freshT d.C d.need d.n L = [] := by
  have HJ := Lib.hid hJ
  have HB := Lib.hid hB
  have HW := Lib.hid hW
  have HY := Lib.hid hY
  have H0 := Lib.hid h0
  obtain ⟨n, hnn⟩ : ∃ n, n = d.n := ⟨_, rfl⟩
  have NE := Lib.hid hnn
  have hn2 : n ≤ 1000 := by omega
  clear hJ hB hW hY h0 hn hnn
  refine callsIn_of_wp Tryz.func158 rfl trivial ?_ rfl
  simp only [Tryz.ntmps158, List.size_toArray, List.length_cons, List.length_nil, Nat.reduceAdd, Nat.reduceSub, Array.replicate_succ, Array.replicate_zero, List.push_toArray, List.append_toArray, List.nil_append, List.cons_append]
  refine wpIn_wide.2 ?_
  go_wp2_with fail
  go_loopw [4, 5, 6, 7] (fun s4 s5 s6 s7 wr => (∃ p, s4 = p) ∧ (∃ p, s5 = p) ∧ (∃ p, s6 = p) ∧ (∃ p, s7 = p) ∧ ∃ r L, Hid (J r L wr)) (fun _ _ _ _ wr => zerosW bo d.n wr)
  case atStart => exact ⟨⟨_, rfl⟩, ⟨_, rfl⟩, ⟨_, rfl⟩, ⟨_, rfl⟩, r0, L0, H0⟩
  case round =>
    clear H0
    obtain ⟨⟨p4, rfl⟩, ⟨p5, rfl⟩, ⟨p6, rfl⟩, ⟨p7, rfl⟩, r, L, JH⟩ := hrel
    have RI : Hid (∀ u, J r L u → LvI u p d bo bx bn q1 q2 r L) := Lib.hid (fun u hu => HJ.out r L u hu)
    have E10 : ∀ u, Hid (J r L u) → u.cell? ⟨q1, 0, none⟩ = some (.pointer (some ⟨p.gp, 0, none⟩)) := fun u hu => load_block (i := 0) (RI.out u hu.out).q1 rfl
    have E20 : ∀ u, Hid (J r L u) → u.cell? ⟨q2, 0, none⟩ = some (.slice (some ⟨bo, 0, none⟩) n n) := fun u hu => by rw [NE.out]; exact load_block (i := 0) (RI.out u hu.out).q2 rfl
    have G00 : ∀ u, Hid (J r L u) → u.cell? ⟨p.gp, 0, none⟩ = some (.int .i64 (n : Int)) := fun u hu => by rw [NE.out]; exact load_block (i := 0) (RI.out u hu.out).gr.g rfl
    have G20 : ∀ u, Hid (J r L u) → u.cell? ⟨p.gp, 2, none⟩ = some (.map (some p.b2)) := fun u hu => load_block (i := 2) (RI.out u hu.out).gr.g rfl
    have G30 : ∀ u, Hid (J r L u) → u.cell? ⟨p.gp, 3, none⟩ = some (.slice (some ⟨p.b3, 0, none⟩) n n) := fun u hu => by rw [NE.out]; exact load_block (i := 3) (RI.out u hu.out).gr.g rfl
    have OC0 : ∀ u, Hid (J r L u) → ∀ i, i < n → u.cell? ⟨bo, i, none⟩ = some (.int .i64 (L.getD i 0)) := fun u hu i hi => ints_cell (RI.out u hu.out).out (by rw [(RI.out u hu.out).rep.len, ← NE.out]; exact hi)
    have NC0 : ∀ u, Hid (J r L u) → ∀ i, i < n → u.cell? ⟨p.b3, i, none⟩ = some (.int .i64 (d.need i)) := fun u hu i hi => ints_cell (RI.out u hu.out).gr.ne (by rw [(RI.out u hu.out).gr.nl, ← NE.out]; exact hi)
    have LK0 : ∀ u, Hid (J r L u) → ∀ k i, k < n → i < n → (Instr.lookup 163 (.map (some p.b2)) (.agg #[.int .i64 (k : Int), .int .i64 (i : Int)]) false).run Tryz.prog u = .ok (.bool (d.C k i)) u := fun u hu k i hk hi => by
      have g := (RI.out u hu.out).gr
      have := g.co.look twoK Tryz.underlying163 (zBool u) (key_two (a := (k : Int)) (b := (i : Int)) (by omega) (by omega))
      rw [g.co1 k i (by rw [← NE.out]; exact hk) (by rw [← NE.out]; exact hi)] at this
      exact this
    have E1 := Lib.hid E10
    have E2 := Lib.hid E20
    have G0 := Lib.hid G00
    have G2 := Lib.hid G20
    have G3 := Lib.hid G30
    have OC := Lib.hid OC0
    have NC := Lib.hid NC0
    have LK := Lib.hid LK0
    clear E10 E20 G00 G20 G30 OC0 NC0 LK0
    have MO : Hid (zerosW bo d.n wr = zerosL d.n L) := Lib.hid (zerosW_eq (RI.out _ JH.out))
    have FR := Lib.hid (fun k => frU_succ d.C d.need d.n L k)
    have CR := Lib.hid (fun i j => cntU_succ d.C L i j)
    have NIL : Hid (wr.ownsRow W.heap.size 3 1 (.slice none 0 0) (frU d.C d.need d.n L 0).length (natsL (frU d.C d.need d.n L 0))) := Lib.hid (World.ownsRow_nil _ _ _ _)
    have e1 := E1.out wr JH
    have g0 := G0.out wr JH
    go_wp2_with fail
    clear e1 g0
    go_loopw [4, 5, 6, 7, 12] (fun s4 s5 s6 s7 s12 w2 => ∃ k : Nat, k ≤ n ∧ s12 = .int .i64 (k : Int) ∧ (∃ p, s5 = p) ∧ (∃ p, s6 = p) ∧ (∃ p, s7 = p) ∧ Hid (J r L w2) ∧ Hid (w2.ownsRow W.heap.size 3 1 s4 (frU d.C d.need d.n L k).length (natsL (frU d.C d.need d.n L k)))) (fun _ _ _ _ i _ => n - (intOf i).toNat)
    case atStart => exact ⟨0, Nat.zero_le _, rfl, ⟨_, rfl⟩, ⟨_, rfl⟩, ⟨_, rfl⟩, JH, NIL⟩
    case round =>
      clear NIL
      obtain ⟨k, hk, rfl, ⟨p5, rfl⟩, ⟨p6, rfl⟩, ⟨p7, rfl⟩, JK, OW⟩ := hrel
      by_cases hlt : k < n
      · have d1 : (k : Int) < (n : Int) := by omega
        have e1 := E1.out wr JK
        have g0 := G0.out wr JK
        have CN : Hid (cntU d.C L k n = cntT d.C d.n L k) := Lib.hid (by rw [NE.out]; rfl)
        go_wp2_with fail
        clear g0
        go_loopw [6, 7, 19] (fun s6 s7 s19 WY => ∃ j : Nat, j ≤ n ∧ s19 = .int .i64 (j : Int) ∧ s6 = .int .i64 ((cntU d.C L k j : Nat) : Int) ∧ (∃ p, s7 = p) ∧ Hid (WY = wr)) (fun _ _ i _ => n - (intOf i).toNat)
        case atStart => exact ⟨0, Nat.zero_le _, rfl, rfl, ⟨_, rfl⟩, Lib.hid rfl⟩
        case round =>
          obtain ⟨j, hj, rfl, rfl, ⟨p7, rfl⟩, EW⟩ := hrel
          have JW : Hid (J r L wr) := Lib.hid (by rw [EW.out]; exact JK.out)
          have cj := cntU_le d.C L k j
          by_cases hlt2 : j < n
          · have d2 : (j : Int) < (n : Int) := by omega
            have d3 : (0 : Int) ≤ (j : Int) := by omega
            have e2 := E2.out wr JW
            have oc := OC.out wr JW j hlt2
            have CS : Hid (cntU d.C L k (j + 1) = cntU d.C L k j + if (decide (0 < L.getD j 0) && d.C j k) = true then 1 else 0) := Lib.hid (CR.out k j)
            have LKJ := Lib.hid (LK.out wr JW j k hlt2 hlt)
            rw [← EW.out] at e1
            have g2 := G2.out wr JW
            generalize L.getD j 0 = x at *
            generalize cntU d.C L k j = c at *
            by_cases hx : 0 < x
            · have lk := LKJ.out
              cases hc : d.C j k
              · rw [hc] at lk
                have CF : Hid (cntU d.C L k (j + 1) = c) := Lib.hid (by rw [CS.out, hc, Bool.and_false]; rfl)
                clear CS LKJ hc
                go_wp2_with fail
                exact ⟨⟨j + 1, by omega, by go_num, by rw [CF.out], ⟨_, rfl⟩, EW⟩, by simp [intOf]; omega⟩
              · rw [hc] at lk
                have CF : Hid (cntU d.C L k (j + 1) = c + 1) := Lib.hid (by rw [CS.out, hc, decide_eq_true hx]; rfl)
                clear CS LKJ hc
                go_wp2_with fail
                exact ⟨⟨j + 1, by omega, by go_num, by rw [CF.out]; go_num, ⟨_, rfl⟩, EW⟩, by simp [intOf]; omega⟩
            · have CF : Hid (cntU d.C L k (j + 1) = c) := Lib.hid (by rw [CS.out, decide_eq_false hx, Bool.false_and]; rfl)
              clear CS LKJ
              go_wp2_with fail
              exact ⟨⟨j + 1, by omega, by go_num, by rw [CF.out], ⟨_, rfl⟩, EW⟩, by simp [intOf]; omega⟩
          · obtain rfl : j = n := by omega
            have d2 : ¬ (j : Int) < (j : Int) := by omega
            have e2 := E2.out wr JW
            have d3 : (0 : Int) ≤ (k : Int) := by omega
            have oc := OC.out wr JW k hlt
            have g3 := G3.out wr JW
            have nc := NC.out wr JW k hlt
            rw [← EW.out] at e1 OW
            rw [CN.out]
            have FS : Hid (frU d.C d.need d.n L (k + 1) = frU d.C d.need d.n L k ++ if (decide (L.getD k 0 = 0) && decide (d.need k ≤ (cntT d.C d.n L k : Int))) = true then [k] else []) := Lib.hid (FR.out k)
            have fl := frU_le d.C d.need d.n L k
            clear CN
            generalize cntT d.C d.n L k = c at *
            generalize L.getD k 0 = x at *
            generalize d.need k = y at *
            by_cases hx : x = 0
            · subst hx
              by_cases hy : y ≤ (c : Int)
              · have F2 : Hid (frU d.C d.need d.n L (k + 1) = frU d.C d.need d.n L k ++ [k]) := Lib.hid (by rw [FS.out, decide_eq_true hy]; rfl)
                have wz := HW.out r L wr JW.out
                have HOW := Lib.hid OW.out
                clear FS
                generalize frU d.C d.need d.n L k = fk at *
                go_wp2_with (at_builtin; refine wpList_appNG rfl (.tmp 56) (.tmp 58) 26 rfl Tryz.underlying26 info_int rfl (by decide) W.heap.size _ fk.length (natsL fk) _ 1 (by decide) rfl (by intro y hy; simp at hy; rw [hy]; rfl) rfl rfl rfl HOW.out wz (by omega) (by omega) ?_; intro g7 c7 w7 ho7 hg7 hl7 hb7)
                refine ⟨⟨k + 1, by omega, by go_num, ⟨_, rfl⟩, ⟨_, rfl⟩, ⟨_, rfl⟩, Lib.hid (HB.out r L wr w7 JW.out hb7), Lib.hid ?_⟩, by simp [intOf]; omega⟩
                rw [F2.out, natsL_app, List.length_append]
                exact ho7
              · have F2 : Hid (frU d.C d.need d.n L (k + 1) = frU d.C d.need d.n L k) := Lib.hid (by rw [FS.out, decide_eq_false hy, Bool.and_false]; simp)
                have hy2 : (c : Int) < y := by omega
                clear FS
                go_wp2_with fail
                exact ⟨⟨k + 1, by omega, by go_num, ⟨_, rfl⟩, ⟨_, rfl⟩, ⟨_, rfl⟩, JW, by rw [F2.out]; exact OW⟩, by simp [intOf]; omega⟩
            · have F2 : Hid (frU d.C d.need d.n L (k + 1) = frU d.C d.need d.n L k) := Lib.hid (by rw [FS.out, decide_eq_false hx, Bool.false_and]; simp)
              have hx2 : (x == 0) = false := by simpa using hx
              clear FS
              go_wp2_with fail
              exact ⟨⟨k + 1, by omega, by go_num, ⟨_, rfl⟩, ⟨_, rfl⟩, ⟨_, rfl⟩, JW, by rw [F2.out]; exact OW⟩, by simp [intOf]; omega⟩
      · obtain rfl : k = n := by omega
        have d1 : ¬ (k : Int) < (k : Int) := by omega
        have FN : Hid (frU d.C d.need d.n L k = freshT d.C d.need d.n L) := Lib.hid (by rw [NE.out]; rfl)
        rw [FN.out] at OW
        have fl : (freshT d.C d.need d.n L).length ≤ 1000 := by have := frU_le d.C d.need d.n L k; rw [FN.out] at this; omega
        obtain ⟨A4, c4, rfl, hR4, -⟩ := own_slG OW.out
        have RD := Lib.hid hR4
        by_cases hf : freshT d.C d.need d.n L = []
        · have e0 : (freshT d.C d.need d.n L).length = 0 := by rw [hf]; rfl
          rw [e0]
          go_wp2_with fail
          exact bodyPost_ret (results_none rfl _ _ _) rfl ⟨⟨_, rfl⟩, r, L, JK.out, hf⟩
        · have hp : 0 < (freshT d.C d.need d.n L).length := List.length_pos_iff.2 hf
          obtain ⟨fn, tmps, assign, body, hy, hR⟩ := HY.out r L (.slice A4 (freshT d.C d.need d.n L).length c4) wr JK.out hf ⟨A4, c4, rfl, RD.out⟩ (fun g hg => (own_cells OW.out hg).1)
          have ML : Hid (zerosL d.n (setsL L ((r : Int) + 2) (freshT d.C d.need d.n L)) < zerosL d.n L) := Lib.hid (zeros_next (RI.out _ JK.out).rep hf)
          generalize (freshT d.C d.need d.n L).length = m at *
          have hm : ((m : Int) == 0) = false := by simp; omega
          refine (wpIn_wide (n := 3)).1 ?_
          gi_wp2_with fail
          refine (wpIn_wide (n := 3)).1 ?_
          gi_wp2_with fail
          refine hR.mono ?_
          clear hR hy
          rintro e W3 ⟨rfl, hJ3⟩
          have H3 := Lib.hid hJ3
          clear hJ3
          gi_wp2_with fail
          refine ⟨⟨⟨_, rfl⟩, ⟨_, rfl⟩, ⟨_, rfl⟩, ⟨_, rfl⟩, r + 1, _, H3⟩, ?_⟩
          rw [MO.out, zerosW_eq (HJ.out _ _ _ H3.out)]
          exact ML.out
end Go.Proofs.YtniklmikdkjgiaaGreatDoor
namespace Go.Proofs.YtniklmikdkjgiaaGreatDoor
open Go.RowKit Go.Shelf Go.Maps Go.ChangeMaps Go.MapKept Go.WideShapes Go.WideMaps
attribute [local go_sem] Oper.semAt_some
attribute [local go_sem ↓] Go.wp_at_zero Go.wp_at_succ
theorem rounds_any (gp bo n : Nat) (w : World) :
    Calls Tryz.prog 127 #[.pointer (some ⟨gp, 0, none⟩), .slice (some ⟨bo, 0, none⟩) n n] w fun e w' => e = .returned (.func (.func 158) #[] #[.pointer (some ⟨w.heap.size, 0, none⟩), .pointer (some ⟨w.heap.size + 1, 0, none⟩)]) ∧ (w.alloc (.cells #[.pointer (some ⟨gp, 0, none⟩)] 123)).alloc (.cells #[.slice (some ⟨bo, 0, none⟩) n n] 26) = w' := by
  go_enter Tryz.func127, Tryz.ntmps127
  go_wp2_with fail
  go_ret
  exact ⟨rfl, rfl⟩
theorem made_ints (n : Nat) : madeCells #[Value.int .i64 0] n = (intsL (List.replicate n 0)).toArray := by
  apply Array.ext
  · simp [madeCells, intsL]
  · intro i h1 h2
    simp [madeCells, intsL, Nat.mod_one]
theorem ints_set (L : List Int) (i : Nat) (v : Int) : (intsL L).toArray.setIfInBounds i (.int .i64 v) = (intsL (L.set i v)).toArray := by
  unfold intsL
  rw [List.setIfInBounds_toArray, List.map_set]
theorem setCell_other {w : World} {b i k : Nat} {v : Value} (h : k ≠ b) : (w.setCell ⟨b, i, none⟩ v).heap[k]? = w.heap[k]? := by
  simp [World.setCell, Array.getElem?_modify]
  intro e; exact absurd e.symm h
theorem setCell_row {w : World} {b i : Nat} {cs : Array Value} {t : TypeId} (v : Value) (h : w.heap[b]? = some (.cells cs t (0, 0))) : (w.setCell ⟨b, i, none⟩ v).heap[b]? = some (.cells (cs.setIfInBounds i v) t (0, 0)) := by
  simp [World.setCell, Array.getElem?_modify, h]
theorem setsL_snoc (v : Int) : ∀ (is : List Nat) (L : List Int) (i : Nat), setsL L v (is ++ [i]) = (setsL L v is).set i v
  | [], _, _ => rfl
  | j :: is, L, i => by
    rw [List.cons_append]
    show setsL (L.set j v) v (is ++ [i]) = _
    rw [setsL_snoc v is]; rfl
structure LvM (V wr : World) (p : GP) (d : GD) (bo it : Nat) (left : Lit → Bool) (cnt : Nat) (L : List Int) : Prop where
  rg : MapRg wr Tryz.prog 3 p.b1 it p.M1 p.m1 left cnt
  len : L.length = d.n
  val : ∀ i, i < d.n → L.getD i 0 = if ((p.M1 (.int .i64 (i : Int))).isSome && !left (.int .i64 (i : Int))) = true then 1 else 0
  out : wr.heap[bo]? = some (.cells (intsL L).toArray 3 (0, 0))
  bt : But (fun b => b = bo ∨ b = it) V wr
theorem LvM.fin {V wr : World} {p : GP} {d : GD} {bo it : Nat} {left : Lit → Bool} {cnt : Nat} {L : List Int} (h : LvM V wr p d bo it left cnt L) (hg : GrAt V p d) (hl : ∀ kl, left kl = false) : L = startT d.M d.n := by
  apply List.ext_getElem (by rw [h.len]; unfold startT; simp)
  intro i h1 h2
  have hi : i < d.n := by rw [← h.len]; exact h1
  have e : L[i] = L.getD i 0 := by rw [List.getD_eq_getElem?_getD, List.getElem?_eq_getElem h1]; rfl
  rw [e, h.val i hi, hl]
  have g : (startT d.M d.n)[i] = if d.M i = true then 1 else 0 := by simp [startT]
  rw [g]
  congr 1
  rw [Bool.not_false, Bool.and_true, eq_iff_iff]
  constructor
  · intro hh
    obtain ⟨v, hv⟩ := Option.isSome_iff_exists.1 hh
    obtain ⟨j, -, e1, e2⟩ := hg.mo1 _ _ hv
    injection e1 with _ e1
    have : i = j := by omega
    rw [this]; exact e2
  · exact hg.mo2 i hi
theorem LvM.step {V wr w1 : World} {p : GP} {d : GD} {bo it : Nat} {left : Lit → Bool} {cnt cnt' : Nat} {L : List Int} (h : LvM V wr p d bo it left cnt L) {i : Nat} (hi : i < d.n) (hs : (p.M1 (.int .i64 (i : Int))).isSome = true) (hb1 : p.b1 ≠ bo) (hit : it ≠ bo)
    (hrg : MapRg w1 Tryz.prog 3 p.b1 it p.M1 p.m1 (fun x => left x && !x.sameKey (.int .i64 (i : Int))) cnt') (hg : wr.grownBy w1 (some it)) :
    LvM V (w1.setCell ⟨bo, i, none⟩ (.int .i64 1)) p d bo it (fun x => left x && !x.sameKey (.int .i64 (i : Int))) cnt' (L.set i 1) := by
  have o1 : w1.heap[bo]? = some (.cells (intsL L).toArray 3 (0, 0)) := (hg.block bo (lt_of_block h.out) (fun e => by injection e with e; exact hit e.symm)).trans h.out
  refine ⟨hrg.same (setCell_other hb1) (setCell_other hit), by rw [List.length_set, h.len], fun j hj => ?_, ?_, ?_⟩
  · by_cases e : j = i
    · subst e
      rw [List.getD_eq_getElem?_getD, List.getElem?_set_self (by rw [h.len]; exact hj), hs]
      have : (Lit.int .i64 (j : Int)).sameKey (.int .i64 (j : Int)) = true := WideAt.sameKey_self (by trivial)
      rw [this]; simp
    · rw [List.getD_eq_getElem?_getD, List.getElem?_set_ne (fun e2 => e e2.symm), ← List.getD_eq_getElem?_getD, h.val j hj]
      have : (Lit.int .i64 (j : Int)).sameKey (.int .i64 (i : Int)) = false := Maps.sameKey_ne (fun e2 => by injection e2 with _ e2; omega)
      rw [this]; simp
  · rw [setCell_row _ o1, ints_set]
  · refine ⟨hg.os.trans h.bt.os, hg.tape.trans h.bt.tape, hg.output.trans h.bt.output, Nat.le_trans h.bt.size (Nat.le_trans hg.size (by simp)), fun k hk hx => ?_⟩
    rw [setCell_other (fun e => hx (.inl e))]
    exact (hg.block k (Nat.lt_of_lt_of_le hk h.bt.size) (fun e => by injection e with e; exact hx (.inr e))).trans (h.bt.block k hk hx)
theorem fin_unique {M : Nat → Bool} {C : Nat → Nat → Bool} {N : Nat → Int} {n : Nat} {L L' : List Int} (a : FinL M C N n L) (b : FinL M C N n L') : L = L' := by
  apply List.ext_getElem (by rw [a.len, b.len])
  intro i h1 h2
  have hi : i < n := by rw [← a.len]; exact h1
  have e : ∀ L : List Int, ∀ h : i < L.length, L[i] = L.getD i 0 := fun L h => by rw [List.getD_eq_getElem?_getD, List.getElem?_eq_getElem h]; rfl
  rw [e _ h1, e _ h2]
  have p1 := a.pos i hi
  have p2 := b.pos i hi
  have key : ∀ {x y : Int}, 0 < x → 0 ≤ y → (∀ m : Nat, (0 < x ∧ x ≤ (m : Int) + 1) → (0 < y ∧ y ≤ (m : Int) + 1)) → 0 < y ∧ y ≤ x := fun {x y} hx hy h => by
    obtain ⟨m, hm⟩ : ∃ m : Nat, x = (m : Int) + 1 := ⟨(x - 1).toNat, by omega⟩
    have := h m ⟨hx, by omega⟩
    omega
  by_cases h : 0 < L.getD i 0
  · have k1 := key h p2 (fun m hm => (b.lev i hi m).2 ((a.lev i hi m).1 hm))
    have k2 := key k1.1 p1 (fun m hm => (a.lev i hi m).2 ((b.lev i hi m).1 hm))
    omega
  · by_cases h' : 0 < L'.getD i 0
    · have k2 := key h' p1 (fun m hm => (a.lev i hi m).2 ((b.lev i hi m).1 hm))
      omega
    · omega
theorem cell_put {A : World} {l b i : Nat} {o o' : Obj} {u : Value} (hl : A.heap[l]? = some o) (ho : o.isCells = false) (h : A.cell? ⟨b, i, none⟩ = some u) : (A.putObj l o').cell? ⟨b, i, none⟩ = some u := by
  refine (World.cell?_of_block (w := A) (World.putObj_heap_other (fun e => ?_))).trans h
  have e : b = l := e
  subst e
  unfold World.cell? at h
  simp only [hl] at h
  cases o <;> simp_all [Obj.isCells]
theorem sl_put {A : World} {l n : Nat} {o o' : Obj} {v : Value} {xs : List Value} (h : SlIs A v n xs) (hl : A.heap[l]? = some o) (ho : o.isCells = false) : SlIs (A.putObj l o') v n xs := by
  obtain ⟨P, c, e, hr⟩ := h
  refine ⟨P, c, e, fun hx => ?_⟩
  obtain ⟨b, off, e2, hb, hc⟩ := hr hx
  exact ⟨b, off, e2, by simpa [World.putObj] using hb, fun i u hu => cell_put hl ho (hc i u hu)⟩
theorem rd_block {w : World} {b : Nat} {cs : List Value} {t : TypeId} (h : w.heap[b]? = some (.cells cs.toArray t (0, 0))) : Rd w (some ⟨b, 0, none⟩) cs :=
  fun _ => ⟨b, 0, rfl, lt_of_block h, fun i u hu => by rw [Nat.zero_add]; exact load_block h (by simpa using hu)⟩
theorem levels_any (w : World) (p : GP) (d : GD) (hg : GrAt w p d) (hl : p.lt w.heap.size) :
    Calls Tryz.prog 93 #[.pointer (some ⟨p.gp, 0, none⟩)] w fun e w' => ∃ v, e = .returned v ∧ SlIs w' v d.n (intsL (levelsT d.M d.C d.need d.n)) ∧ Below w.heap.size w w' := by
  obtain ⟨n, hnn⟩ : ∃ n, n = d.n := ⟨_, rfl⟩
  have NE := Lib.hid hnn
  have nz : n ≤ 1000 := by rw [hnn]; exact hg.nz
  obtain ⟨bo, hbo⟩ : ∃ bo, w.heap.size = bo := ⟨_, rfl⟩
  obtain ⟨V, hV⟩ : ∃ V, V = (w.alloc (.cells (intsL (List.replicate n 0)).toArray 3)).alloc (.cells #[.slice (some ⟨bo, 0, none⟩) n n] 26) := ⟨_, rfl⟩
  have hz : V.heap.size = bo + 2 := by rw [hV, ← hbo]; simp
  have BV : Below w.heap.size w V := by rw [hV]; exact ((Below.refl _ _).alloc (Nat.le_refl _) _).alloc (by simp) _
  have XO : V.heap[bo]? = some (.cells (intsL (List.replicate n 0)).toArray 3 (0, 0)) := by rw [hV, ← hbo]; exact (alloc_old _ _ (by simp)).trans (heap_alloc_new w _)
  have XX : V.heap[bo + 1]? = some (.cells #[.slice (some ⟨bo, 0, none⟩) n n] 26 (0, 0)) := by rw [hV, ← hbo]; exact alloc_new' _ _ _ (by simp)
  have GV : GrAt V p d := hg.below hl BV
  obtain ⟨w0, hr0, hrg, hg0, hsz⟩ := GV.mo.range intK Tryz.underlying162
  have b1lt := GV.mo.lt
  have S0 : Hid (LvM V w0 p d bo V.heap.size (fun kl => (p.M1 kl).isSome) p.m1 (List.replicate n 0)) := Lib.hid ⟨hrg, by simp [hnn], fun i hi => by
      rw [List.getD_eq_getElem?_getD, List.getElem?_replicate_of_lt (by omega)]; cases (p.M1 (.int .i64 (i : Int))).isSome <;> rfl, (hg0.block bo (by omega) (by simp)).trans XO, ⟨hg0.os, hg0.tape, hg0.output, hg0.size, fun k hk _ => hg0.block k hk (by simp)⟩⟩
  have hmk : ∀ u : World, (Instr.makeSlice 26 (.int .i64 (n : Int)) (.int .i64 (n : Int))).run Tryz.prog u = .ok (.slice (some ⟨u.heap.size, 0, none⟩) n n) (u.alloc (.cells (intsL (List.replicate n 0)).toArray 3)) := fun u => by
    have := mk_run (P := Tryz.prog) Tryz.underlying26 info_int n (by omega) (by omega) u
    rw [Nat.mul_one] at this
    rw [this, ← made_ints]; rfl
  have g0 : w.cell? ⟨p.gp, 0, none⟩ = some (.int .i64 (n : Int)) := by rw [hnn]; exact load_block (i := 0) hg.g rfl
  have g1 : V.cell? ⟨p.gp, 1, none⟩ = some (.map (some p.b1)) := load_block (i := 1) GV.g rfl
  have GH := Lib.hid hg
  have LH := Lib.hid hl
  have GVH := Lib.hid GV
  have BVH := Lib.hid BV
  have XXH := Lib.hid XX
  have X0 := Lib.hid hV
  have X1 := Lib.hid hbo
  have HZ := Lib.hid hz
  have HBO := Lib.hid hbo
  obtain ⟨it, hit⟩ : ∃ it, V.heap.size = it := ⟨_, rfl⟩
  rw [hit] at S0 hr0
  have hib := Lib.hid (show it = bo + 2 by omega)
  have hb1b : p.b1 < bo := by have := hl.b1; omega
  clear hg hl hrg hg0 hsz GV BV XO XX hV hbo hnn hz b1lt
  (refine (callsIn_wide (n := 5)).1 ?_; refine callsIn_of_wp_marks Tryz.func93 rfl trivial ?_ rfl; simp only [Tryz.ntmps93, List.size_toArray, List.length_cons, List.length_nil, Nat.reduceAdd, Nat.reduceSub, Array.replicate_succ, Array.replicate_zero, List.push_toArray, List.append_toArray, List.nil_append, List.cons_append]; refine wpIn_wide.2 ?_)
  go_upto_region 2 with fail
  rw [X1.out, ← X0.out]
  clear X0 hmk g0
  go_wp2_with fail
  clear hr0
  go_loopw [4] (fun s4 wr => (∃ q, s4 = q) ∧ ∃ left cnt L, Hid (LvM V wr p d bo it left cnt L)) (fun _ wr => wr.rangeLeft p.b1 it)
  case atStart => exact ⟨⟨_, rfl⟩, _, _, _, S0⟩
  case round =>
    clear S0
    obtain ⟨⟨q4, rfl⟩, left, cnt, L, HM⟩ := hrel
    rcases HM.out.rg.next intK 0 with ⟨hc0, hl0, hnx⟩ | ⟨key, v, kl, w1, cnt', hkey, hlk, hM, hnx, hrg1, hlt, hg1, hs1, hen⟩
    · have LF : L = startT d.M d.n := HM.out.fin GVH.out hl0
      have OUT := HM.out.out
      rw [LF] at OUT
      have BB : Below bo V wr := HM.out.bt.below (by have := HZ.out; omega) (fun k hk => by have := hib.out; rcases hk with rfl | rfl <;> omega)
      have GW := GVH.out.below (HBO.out ▸ LH.out) BB
      have BW : Below bo w wr := (HBO.out ▸ BVH.out).trans BB
      have XW : wr.heap[bo + 1]? = some (.cells #[.slice (some ⟨bo, 0, none⟩) n n] 26 (0, 0)) := (HM.out.bt.block _ (by have := HZ.out; omega) (by have := hib.out; omega)).trans XXH.out
      obtain ⟨bn, hbn⟩ : ∃ bn, wr.heap.size = bn := ⟨_, rfl⟩
      have hbn2 : bo + 2 ≤ bn := by rw [← hbn, ← HZ.out]; exact HM.out.bt.size
      obtain ⟨Y, hY⟩ : ∃ Y, Y = wr.alloc (.cells #[.int .i64 2] 3) := ⟨_, rfl⟩
      obtain ⟨X, hX⟩ : ∃ X, X = (Y.alloc (.cells #[.pointer (some ⟨p.gp, 0, none⟩)] 123)).alloc (.cells #[.slice (some ⟨bo, 0, none⟩) n n] 26) := ⟨_, rfl⟩
      have zY : Y.heap.size = bn + 1 := by rw [hY, ← hbn]; simp
      have zX : X.heap.size = bn + 3 := by rw [hX]; simp [zY]
      have BY : Below wr.heap.size wr Y := by rw [hY]; exact (Below.refl _ _).alloc (Nat.le_refl _) _
      have BXY : Below Y.heap.size Y X := by rw [hX]; exact ((Below.refl _ _).alloc (Nat.le_refl _) _).alloc (by simp) _
      have BX : Below bn wr X := by rw [← hbn]; exact BY.trans (BXY.mono (by omega))
      have I0 : Hid (LvI X p d bo (bo + 1) bn (bn + 1) (bn + 2) 0 (startT d.M d.n)) := Lib.hid ⟨GW.below (HBO.out ▸ LH.out) (BX.mono (by omega)), (BX.block bo (by omega)).trans OUT, (BX.block (bo + 1) (by omega)).trans (by rw [← NE.out]; exact XW),
        (BXY.block bn (by omega)).trans (by rw [hY, ← hbn]; exact heap_alloc_new wr _), by rw [hX]; exact (alloc_old _ _ (by simp [zY])).trans (alloc_new' _ _ _ zY.symm), by rw [hX, ← NE.out]; exact alloc_new' _ _ _ (by simp [zY]), RepL.start _ _ _ _, by unfold zerosL; have := List.length_filter_le (fun i => decide ((startT d.M d.n).getD i 0 = 0)) (List.range d.n); rw [List.length_range] at this; omega⟩
      have BWX := Lib.hid (BW.trans (BX.mono (by omega)))
      have RA := Lib.hid (rounds_any p.gp bo n Y)
      have c1 : Y.cell? ⟨bo + 1, 0, none⟩ = some (.slice (some ⟨bo, 0, none⟩) n n) := load_block (i := 0) ((BY.block _ (by omega)).trans XW) rfl
      have HX := Lib.hid hX
      have HY := Lib.hid hY
      have HBN := Lib.hid hbn
      have HBN2 := Lib.hid hbn2
      have ZY := Lib.hid zY
      have ZX := Lib.hid zX
      clear OUT BB GW BW XW hbn hY hX zY zX BY BXY BX hl0 hc0 LF HM hbn2
      go_upto_region 7 with fail
      rw [HBN.out, ← HY.out]
      go_wp2_with fail
      (with_reducible refine RA.out.mono ?_)
      rintro e w1 ⟨rfl, hw1⟩
      have hw2 : w1 = X := by rw [HX.out, ← hw1]
      subst hw2
      rw [ZY.out]
      clear hw1 RA c1
      go_wp2_with fail
      refine (wpIn_wide (n := 4)).1 ?_
      have LVB : Hid (LvB w1.heap.size p bo (bo + 1) bn (bn + 1) (bn + 2)) := Lib.hid (by
        have h1 := LH.out
        rw [HBO.out] at h1
        have z := ZX.out
        have z2 := HBN2.out
        have h2 := h1.gp
        have h3 := h1.b1
        have h4 := h1.b2
        have h5 := h1.b3
        exact ⟨⟨by omega, by omega, by omega, by omega⟩, by omega, by omega, by omega, by omega, by omega, by omega, by omega, by omega⟩)
      refine wpIn_rangeT (F := Fence.wide) (n := 4) (σ := Nat × List Int) rfl (by decide) (gf := 158) (lb := #[.pointer (some ⟨bn + 1, 0, none⟩), .pointer (some ⟨bn + 1 + 1, 0, none⟩)]) rfl trivial (enters_of Tryz.func158 (by kernel_rfl) rfl)
        (fun s W => LvI W p d bo (bo + 1) bn (bn + 1) (bn + 2) s.1 s.2 ∧ Below bo w W) ?hI (fun s v A => freshT d.C d.need d.n s.2 ≠ [] ∧ SlIs A v (freshT d.C d.need d.n s.2).length (natsL (freshT d.C d.need d.n s.2)) ∧ ∀ g, v.ownBlock = some g → w1.heap.size ≤ g) ?hPx
        (fun s => (s.1 + 1, setsL s.2 ((s.1 : Int) + 2) (freshT d.C d.need d.n s.2))) (fun s => freshT d.C d.need d.n s.2 = []) (0, startT d.M d.n) rfl ?seq ⟨I0.out, BWX.out⟩ (fun v => { tmps := #[.pointer (some ⟨p.gp, 0, none⟩), undef, .slice none 0 0, .pointer (some ⟨bo + 1, 0, none⟩), u4, .pointer (some ⟨bn, 0, none⟩), v, undef, undef, .pointer (some ⟨p.gp, 0, none⟩), .pointer (some ⟨p.gp, 0, none⟩), .pointer (some ⟨p.gp, 0, none⟩), .int .i64 (n : Int), .slice (some ⟨bo, 0, none⟩) n n, .pointer (some ⟨p.gp, 0, none⟩), .pointer (some ⟨p.gp, 0, none⟩), .pointer (some ⟨p.gp, 1, none⟩), .map (some p.b1), .pointer (some ⟨it, 0, none⟩), .tuple #[.bool false], .bool false, u21, u22, u23, u24, u25, .pointer (some ⟨p.gp, 0, none⟩), .slice (some ⟨bo, 0, none⟩) n n, .func (.func 158) #[] #[.pointer (some ⟨bn + 1, 0, none⟩), .pointer (some ⟨bn + 1 + 1, 0, none⟩)], v, undef, undef, undef, undef, undef, undef, undef, undef, undef, undef, undef, undef, undef, undef], defers := [] }) ?assign ?body ?done
      case hI => exact fun s A B h hB => ⟨h.1.below (B := w1.heap.size) (LVB.out) hB, h.2.trans (hB.mono (by have := ZX.out; have := HBN2.out; omega))⟩
      case hPx =>
        rintro s v A l o o' ⟨h1, h2, h3⟩ hl ho
        exact ⟨h1, sl_put h2 hl ho, h3⟩
      case seq =>
        intro l J W hW hJI hJB hJW hY h0
        have R := rounds1_any l p d bo (bo + 1) bn (bn + 1) (bn + 2) (fun r L A => J (r, L) A) W (fun r L A h => (hJI _ _ h).1) (fun r L A B h hB => hJB _ _ _ h hB) (fun r L A h => hJW _ _ h) (fun r L v A h hf hs hg => hY (r, L) v A h ⟨hf, hs, fun g e => Nat.le_trans hW.size (hg g e)⟩) 0 _ h0 (by have := NE.out; omega)
        refine R.mono ?_
        rintro e W' ⟨h1, r, L, h2, h3⟩
        exact ⟨h1, (r, L), h3, h2⟩
      case assign =>
        intro l v W K hK
        gi_wp2
        exact hK
      case body =>
        rintro l ⟨r, L⟩ v W ⟨hI, hBW⟩ ⟨hf, ⟨A4, c4, rfl, hR4⟩, hG4⟩
        dsimp only at hI hf hR4 ⊢
        have II := Lib.hid hI
        have IB := Lib.hid hBW
        have LL : Hid (L.length = n) := Lib.hid (by rw [hI.rep.len, NE.out])
        have FM : Hid (∀ i ∈ freshT d.C d.need d.n L, i < n) := Lib.hid (fun i hi => by rw [NE.out]; exact ((mem_fresh hI.rep).1 hi).1)
        have FN : Hid (RepL d.M d.C d.need d.n (r + 1) (setsL L ((r : Int) + 2) (freshT d.C d.need d.n L))) := Lib.hid hI.rep.next
        have FL : (freshT d.C d.need d.n L).length ≤ 1000 := by have := frU_le d.C d.need d.n L d.n; have e : frU d.C d.need d.n L d.n = freshT d.C d.need d.n L := rfl; rw [e] at this; have := NE.out; omega
        have RW : (r : Int) ≤ 100000 := by
          have h1 := hI.rz
          have h2 := NE.out
          omega
        have GH4 := Lib.hid hG4
        have RZ : Hid (r + 1 + zerosL d.n (setsL L ((r : Int) + 2) (freshT d.C d.need d.n L)) ≤ d.n) := Lib.hid (by have h1 := hI.rz; have h2 := zeros_next hI.rep hf; omega)
        have RH := Lib.hid hR4
        clear hI hBW hf hR4 hG4
        generalize freshT d.C d.need d.n L = fr at *
        obtain ⟨m, hm⟩ : ∃ m, m = fr.length := ⟨_, rfl⟩
        have MH := Lib.hid hm
        rw [← hm] at FL ⊢
        have S0 : Hid (W.heap[bo]? = some (.cells (intsL (setsL L ((r : Int) + 2) (fr.take 0))).toArray 3 (0, 0))) := Lib.hid (by rw [List.take_zero]; exact II.out.out)
        clear hm
        gi_wp2_with fail
        gi_loopw [8, 32] (fun s8 s32 wr => ∃ k : Nat, k ≤ m ∧ s32 = .int .i64 (k : Int) ∧ (∃ q, s8 = q) ∧ Hid (wr.heap[bo]? = some (.cells (intsL (setsL L ((r : Int) + 2) (fr.take k))).toArray 3 (0, 0))) ∧ Hid (But (fun b => b = bo) W wr) ∧ Hid (KeepsOthers W wr)) (fun _ i _ => m - (intOf i).toNat)
        case atStart => exact ⟨0, Nat.zero_le _, rfl, ⟨_, rfl⟩, S0, Lib.hid (But.refl _ _), Lib.hid (KeepsOthers.refl _)⟩
        case round =>
          clear S0
          obtain ⟨k, hk, rfl, ⟨q8, rfl⟩, OB, BT, KO⟩ := hrel
          have zb : bo + 2 ≤ bn := HBN2.out
          have hlt0 := II.out.bn
          have cx : wr.cell? ⟨bo + 1, 0, none⟩ = some (.slice (some ⟨bo, 0, none⟩) n n) := by rw [NE.out]; exact load_block (i := 0) ((BT.out.block _ (lt_of_block II.out.bx) (by omega)).trans II.out.bx) rfl
          have xn : wr.heap[bn]? = some (.cells #[.int .i64 ((r : Int) + 2)] 3 (0, 0)) := (BT.out.block _ (lt_of_block II.out.bn) (by omega)).trans II.out.bn
          have cn : wr.cell? ⟨bn, 0, none⟩ = some (.int .i64 ((r : Int) + 2)) := load_block (i := 0) xn rfl
          by_cases hlt : k < m
          · have hkl : k < fr.length := by rw [← MH.out]; exact hlt
            have d1 : (k : Int) < (m : Int) := by omega
            have d2 : (0 : Int) ≤ (k : Int) := by omega
            obtain ⟨b, off, rfl, hb, hc⟩ := RH.out (by unfold natsL; rw [List.length_map]; omega)
            have ck0 := hc k (.int .i64 ((fr[k] : Nat) : Int)) (by unfold natsL; rw [List.getElem?_map, List.getElem?_eq_getElem hkl]; rfl)
            have hbw : w1.heap.size ≤ b := GH4.out b rfl
            have hbo : bo < w1.heap.size := by have := ZX.out; omega
            have ck : wr.cell? ⟨b, off + k, none⟩ = some (.int .i64 ((fr[k] : Nat) : Int)) := (World.cell?_of_block (w := W) (BT.out.block b hb (by omega))).trans ck0
            have hin : fr[k] < n := FM.out _ (List.getElem_mem hkl)
            have TK : Hid (setsL L ((r : Int) + 2) (fr.take (k + 1)) = (setsL L ((r : Int) + 2) (fr.take k)).set fr[k] ((r : Int) + 2)) := Lib.hid (by rw [List.take_succ_eq_append_getElem hkl, setsL_snoc])
            generalize fr[k] = i at *
            have co := ints_cell OB.out (i := i) (by rw [setsL_len, LL.out]; exact hin)
            have fo := free_blk OB.out i
            have d3 : (i : Int) < (n : Int) := by omega
            have d4 : (0 : Int) ≤ (i : Int) := by omega
            clear ck0 hc xn hlt0
            gi_wp2_with fail
            exact ⟨⟨k + 1, by omega, by go_num, ⟨_, rfl⟩, Lib.hid (by rw [TK.out, setCell_row _ OB.out, ints_set]), Lib.hid (BT.out.set rfl _), Lib.hid (KO.out.trans (KeepsOthers.setCell _ _ _))⟩, by simp [intOf]; omega⟩
          · obtain rfl : k = m := by omega
            have d1 : ¬ (k : Int) < (k : Int) := by omega
            have fn := free_blk xn 0
            rw [List.take_of_length_le (by rw [← MH.out]; exact Nat.le_refl _)] at OB
            have XN := Lib.hid xn
            clear xn hlt0
            gi_wp2_with fail
            have h1 := LH.out
            rw [HBO.out] at h1
            have z1 := h1.gp
            have z2 := h1.b1
            have z3 := h1.b2
            have z4 := h1.b3
            have kk : ∀ q, q < W.heap.size → q ≠ bo → q ≠ bn → (wr.setCell ⟨bn, 0, none⟩ (.int .i64 ((r : Int) + 2 + 1))).heap[q]? = W.heap[q]? := fun q h1 h2 h3 => (setCell_other h3).trans (BT.out.block q h1 h2)
            have G := II.out.gr
            refine ⟨KO.out.trans (KeepsOthers.setCell _ _ _), ⟨⟨(kk _ (lt_of_block G.g) (by omega) (by omega)).trans G.g, G.mo.same (kk _ G.mo.lt (by omega) (by omega)), G.mo1, G.mo2, G.co.same (kk _ G.co.lt (by omega) (by omega)), G.co1, (kk _ (lt_of_block G.ne) (by omega) (by omega)).trans G.ne, G.nl, G.nz⟩, ?_, ?_, ?_, ?_, ?_, FN.out, RZ.out⟩, ?_⟩
            · exact (setCell_other (by omega)).trans OB.out
            · exact (kk _ (lt_of_block II.out.bx) (by omega) (by omega)).trans II.out.bx
            · rw [setCell_row _ XN.out]
              simp; omega
            · exact (kk _ (lt_of_block II.out.q1) (by omega) (by omega)).trans II.out.q1
            · exact (kk _ (lt_of_block II.out.q2) (by omega) (by omega)).trans II.out.q2
            · exact IB.out.trans ((BT.out.below (by have := lt_of_block II.out.bx; omega) (fun k hk => by omega)).setCell (p := ⟨bn, 0, none⟩) (by show bo ≤ bn; omega) _)
      case done =>
        rintro D ⟨r, L⟩ W hD hT ⟨hI, hBW⟩ hdef
        have c1 : W.cell? ⟨bo + 1, 0, none⟩ = some (.slice (some ⟨bo, 0, none⟩) n n) := by rw [NE.out]; exact load_block (i := 0) hI.bx rfl
        have BD : Below w1.heap.size W (W.putObj D (.deferred none)) := below_put hD hdef
        have PF : Hid (SlIs (W.putObj D (.deferred none)) (.slice (some ⟨bo, 0, none⟩) n n) d.n (intsL (levelsT d.M d.C d.need d.n))) := Lib.hid (by
          have HL : L = levelsT d.M d.C d.need d.n := fin_unique (hI.rep.fin hT) (levels_fin _ _ _ _)
          have OB := (hI.below LVB.out BD).out
          rw [HL] at OB
          rw [NE.out]
          exact ⟨_, _, rfl, rd_block OB⟩)
        have BL : Hid (Below bo w (W.putObj D (.deferred none))) := Lib.hid (hBW.trans (BD.mono (by have := ZX.out; have := HBN2.out; omega)))
        have HDEF := Lib.hid hdef
        have HBO2 := HBO.out
        clear hI hBW hdef BD hT hD
        go_wp2_with fail
        refine ⟨by simp, .inl ⟨_, _, rfl, run_takeDeferred HDEF.out, ?_⟩⟩
        exact ⟨_, results_tmp rfl _ _ _, .slice (some ⟨bo, 0, none⟩) n n, rfl, PF.out, by rw [HBO2]; exact BL.out⟩
    · obtain ⟨i, hi, rfl, -⟩ := GVH.out.mo1 _ _ hM
      obtain rfl : key = .int .i64 (i : Int) := intK.inj hkey (key_int (by have := GVH.out.nz; omega))
      have ST := Lib.hid (HM.out.step hi (by rw [hM]; rfl) (by omega) (by have := hib.out; omega) hrg1 hg1)
      have XB1 : w1.heap[bo + 1]? = some (.cells #[.slice (some ⟨bo, 0, none⟩) n n] 26 (0, 0)) := (hg1.block _ (by have := HM.out.bt.size; have := HZ.out; omega) (fun e => by injection e with e; have := hib.out; omega)).trans ((HM.out.bt.block _ (by have := HZ.out; omega) (by have := hib.out; omega)).trans XXH.out)
      have XB0 : w1.heap[bo]? = some (.cells (intsL L).toArray 3 (0, 0)) := (hg1.block _ (lt_of_block HM.out.out) (fun e => by injection e with e; have := hib.out; omega)).trans HM.out.out
      have c1 : w1.cell? ⟨bo + 1, 0, none⟩ = some (.slice (some ⟨bo, 0, none⟩) n n) := load_block (i := 0) XB1 rfl
      have c0 := ints_cell XB0 (i := i) (by rw [HM.out.len]; exact hi)
      have f0 := free_blk XB0 i
      have ORG := HM.out.rg.left_eq
      have ORG2 := Lib.hid ST.out.rg.left_eq
      have hin : i < n := by rw [NE.out]; exact hi
      have d1 : (i : Int) < (n : Int) := by omega
      have d2 : (0 : Int) ≤ (i : Int) := by omega
      clear hM hlk hrg1 hg1 hs1 XB1 XB0
      go_wp2_with fail
      exact ⟨⟨⟨_, rfl⟩, _, _, _, ST⟩, by rw [ORG, ORG2.out]; exact hlt⟩
end Go.Proofs.YtniklmikdkjgiaaGreatDoor
