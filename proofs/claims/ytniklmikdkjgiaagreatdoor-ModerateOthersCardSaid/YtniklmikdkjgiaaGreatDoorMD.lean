/- WALK: moderate.entries. -/
import Derived.Test.YtniklmikdkjgiaaGreatDoorMC
set_option linter.unusedSimpArgs false
set_option linter.unusedVariables false
namespace Go.Proofs.YtniklmikdkjgiaaGreatDoor
open Go.RowKit Go.Maps Go.ChangeMaps Go.MapKept Go.WideShapes Go.WideMaps

theorem idC_len (c : Rc) : (idC c).length ≤ 16 := by
  unfold idC
  split
  · have := Dg.sumL_isD (Dg.joined (pubF c))
    unfold Dg.isD at this
    rw [Bool.and_eq_true, decide_eq_true_eq] at this
    omega
  · exact Nat.zero_le _
theorem EnI.base {w0 V w : World} {bm : Nat} {L : List (Sx × Nat)} {v : Value} {nk : Nat} (h : EnI V w bm L v nk) (hb : Below w0.heap.size w0 V) : EnI w0 w bm L v nk :=
  ⟨hb.trans (h.bel.mono hb.size), h.mp, Nat.le_trans hb.size h.bmb, h.box, fun q hq => Nat.le_trans hb.size (h.big q hq), own_baseG hb.size h.own, h.nd, h.nd2, h.nk⟩
/-- what a round keeps -/
def EnR (V w : World) (bm : Nat) (ms : List Int) (l : List RV) (v : Value) : Prop := ∃ L nk, EnI V w bm L v nk ∧ L.map (·.1) = entS ms l
theorem EnR.bel {V w : World} {bm : Nat} {ms : List Int} {l : List RV} {v : Value} (h : EnR V w bm ms l v) : Below V.heap.size V w := by obtain ⟨L, nk, h, -⟩ := h; exact h.bel
set_option maxHeartbeats 8000000 in
set_option maxRecDepth 100000 in
theorem entries_any (A : Option Addr) (n c : Nat) (l : List RV) (x : WoV) (w : World) (hn : n = l.length) (h : Rs w A l) (hx : WoIs w x) (hm : x.mods.length ≤ 1000000) (ht : Tab w) :
    Calls Tryz.prog 64 #[.slice A n c, woA x] w fun e w' => ∃ v bm L nk, e = .returned (.tuple #[v, .map (some bm)]) ∧ EnI w w' bm L v nk ∧ L.map (·.1) = entS x.mods l := by
  have hl : n ≤ 100000 := by rw [hn]; exact h.len
  have H := Lib.hid h
  have HN := Lib.hid hn
  have HT := Lib.hid ht
  obtain ⟨A2, c2, e2, hr2⟩ := hx.ms
  unfold woA
  obtain ⟨bw, hbw⟩ : ∃ bw, w.heap.size = bw := ⟨_, rfl⟩
  obtain ⟨bm, hbm⟩ : ∃ bm, w.heap.size + 1 = bm := ⟨_, rfl⟩
  obtain ⟨V, hV⟩ : ∃ V, V = w.alloc (.cells (woL x).toArray 38) := ⟨_, rfl⟩
  obtain ⟨W, hW⟩ : ∃ W, W = V.alloc (.map #[] 0) := ⟨_, rfl⟩
  have hz : V.heap.size = bm := by rw [hV]; simpa using hbm
  have BV : Below w.heap.size w V := by rw [hV]; exact (Below.refl _ _).alloc (Nat.le_refl _) _
  have BW : OldB V W := by rw [hW]; exact (Below.refl _ _).alloc (Nat.le_refl _) _
  have XV : V.heap[bw]? = some (.cells (woL x).toArray 38 (0, 0)) := by rw [hV, ← hbw]; exact heap_alloc_new w _
  have XVL := lt_of_block XV
  have MV : ∀ u, OldB V u → u.cell? ⟨bw, 2, none⟩ = some (.slice A2 x.mods.length c2) := fun u hu => by
    have := load_block (i := 2) ((Below.block hu bw XVL).trans XV) rfl
    rw [← e2]; exact this
  have I0 : Hid (EnR V W bm x.mods (l.take 0) (.slice none 0 0)) := Lib.hid ⟨[], 0, ⟨BW, by
    have := MapAt.made V Tryz.prog 9
    rw [← hW, hz] at this
    have e : ptrM [] = fun _ => none := by funext y; cases y <;> rfl
    rw [e]; exact this, by omega, (fun q hq => by cases hq), (fun q hq => by cases hq), World.ownsRow_nil _ _ _ _, List.nodup_nil, List.nodup_nil, Nat.le_refl _⟩, by rw [List.take_zero]; rfl⟩
  have CT : Hid (∀ a u, OldB V u → Calls Tryz.prog 103 #[.slice A2 x.mods.length c2, .int .i64 a] u fun e w' => e = .returned (.bool (inI x.mods a)) ∧ Below u.heap.size u w') := Lib.hid (fun a u hu => contains_any A2 _ c2 x.mods a u rfl hm (hr2.below (BV.trans (Below.mono hu BV.size))))
  have HV : Hid (Rs V A l) := Lib.hid (h.below BV)
  have TV : Hid (Tab V) := Lib.hid (ht.keep BV)
  have FB : Hid (∀ L v nk u, EnI V u bm L v nk → EnI w u bm L v nk) := Lib.hid (fun L v nk u hu => hu.base BV)
  generalize x.mods = ms at *
  obtain ⟨nm, hnm⟩ : ∃ nm, ms.length = nm := ⟨_, rfl⟩
  rw [hnm] at MV CT
  generalize (woL x).toArray = xw at *
  have X1 := Lib.hid hbw
  have X2 := Lib.hid hz
  have X0 := Lib.hid hW
  have XV0 := Lib.hid hV
  clear h hn ht hx hm hbw hbm hW hV hz hr2 e2 BW BV hnm XV XVL H HT
  have mk : ∀ u : World, (Instr.makeMap 95 none).run Tryz.prog u = .ok (.map (some u.heap.size)) (u.alloc (.map #[] 0)) := fun u => run_makeMap _ _
  go_enter Tryz.func64, Tryz.ntmps64
  go_upto_region 2 with fail
  rw [← XV0.out, X1.out]
  go_upto_region 3 with fail
  rw [← X0.out, X2.out]
  clear X0 X1 X2 XV0 mk
  go_wp2_with fail
  go_loopw [6, 9, 10, 11, 12, 16] (fun s6 s9 s10 s11 s12 s16 wr => ∃ k : Nat, k ≤ n ∧ s16 = .int .i64 (k : Int) ∧ (∃ p, s9 = p) ∧ (∃ p, s10 = p) ∧ (∃ p, s11 = p) ∧ (∃ p, s12 = p) ∧ Hid (EnR V wr bm ms (l.take k) s6)) (fun _ _ _ _ _ i _ => n - (intOf i).toNat)
  case atStart => exact ⟨0, Nat.zero_le _, rfl, ⟨_, rfl⟩, ⟨_, rfl⟩, ⟨_, rfl⟩, ⟨_, rfl⟩, I0⟩
  case round =>
    clear I0
    obtain ⟨k, hk, rfl, ⟨p9, rfl⟩, ⟨p10, rfl⟩, ⟨p11, rfl⟩, ⟨p12, rfl⟩, ER⟩ := hrel
    by_cases hlt : k < n
    · have hkl : k < l.length := by rw [← HN.out]; exact hlt
      have d1 : (k : Int) < (n : Int) := by omega
      have d2 : (0 : Int) ≤ (k : Int) := by omega
      have OW : OldB V wr := ER.out.bel
      obtain ⟨L, nk, EI, EL⟩ := ER.out
      have ST : Hid (entS ms (l.take (k + 1)) = stepS ms (entS ms (l.take k)) l[k]) := Lib.hid (entS_take ms l hkl)
      rw [← EL] at ST
      have OWN : Hid (∀ q ∈ L, AnySl q.1.own.edv) := Lib.hid (fun q hq => by
        have hm : q.1 ∈ entS ms (l.take k) := by rw [← EL]; exact List.mem_map.2 ⟨q, hq, rfl⟩
        obtain ⟨A9, c9, e9, -⟩ := (HV.out.is _ (List.mem_of_mem_take (entS_from ms _ _ hm).own)).ed
        exact ⟨A9, _, c9, e9⟩)
      have LK : Hid (L.length ≤ k) := Lib.hid (by
        have e1 := congrArg List.length EL
        have e3 := entS_len ms (l.take k)
        rw [List.length_map] at e1
        rw [List.length_take] at e3
        omega)
      obtain ⟨b, off, rfl, hb, hc⟩ := rvs_at (HV.out.rd.below OW) hkl
      have HI := HV.out.is l[k] (List.getElem_mem hkl)
      have HS := HV.out.sz l[k] (List.getElem_mem hkl)
      have HRM : Hid (l[k] ∈ l) := Lib.hid (List.getElem_mem hkl)
      generalize l[k] = r at *
      obtain ⟨A1, c1, v1, -⟩ := HI.ed
      have ONE := Lib.hid (rvL_one r ⟨_, HI⟩)
      have HC : Hid (wr.rangeAt b (off + k * 21) (rvL r)) := Lib.hid (fun j v hj => hc j v hj)
      obtain ⟨X, hX⟩ : ∃ X, X = wr.alloc (.cells (rvL r).toArray 56) := ⟨_, rfl⟩
      obtain ⟨bx, hbx⟩ : ∃ bx, wr.heap.size = bx := ⟨_, rfl⟩
      have BX : OldB wr X := by rw [hX]; exact (Below.refl _ _).alloc (Nat.le_refl _) _
      have XX : X.heap[bx]? = some (.cells (rvL r).toArray 56 (0, 0)) := by rw [hX, ← hbx]; exact heap_alloc_new wr _
      have XL := lt_of_block XX
      have RX : Hid (∀ u, OldB X u → u.rangeAt bx 0 (rvL r)) := Lib.hid (fun u hu => by have := range_of_row ((hu.block bx XL).trans XX); simpa using this)
      have k0 : ∀ u, OldB X u → u.cell? ⟨bx, 0, none⟩ = some (.int .i64 r.kind) := fun u hu => by have := RX.out u hu 0 _ rfl; simpa using this
      have k1 : ∀ u, OldB X u → u.cell? ⟨bx, 1, none⟩ = some (.int .i64 r.author) := fun u hu => by have := RX.out u hu 1 _ rfl; simpa using this
      have k6 : ∀ u, OldB X u → u.cell? ⟨bx, 6, none⟩ = some (.slice A1 r.edits.length c1) := fun u hu => by have := RX.out u hu 6 _ rfl; rw [← v1]; simpa using this
      have k7 : ∀ u, OldB X u → u.cell? ⟨bx, 7, none⟩ = some (.string (mkB r.target)) := fun u hu => by have := RX.out u hu 7 _ rfl; simpa using this
      have VX : OldB V X := OW.then BX
      have SW : OldB X X := Below.refl _ _
      have EX := Lib.hid (EI.call BX)
      have V1 := Lib.hid v1
      have IDC := Lib.hid (id_any r X (HI.below VX) HS (TV.out.keep VX))
      unfold rvA at IDC
      have HR := Lib.hid (And.intro HI HS)
      have X1 := Lib.hid hbx
      have X0 := Lib.hid hX
      have FS := Lib.hid (fun z (hz : z.length = 21) => setCells_fresh wr z (rvL r) hz rfl ONE.out)
      clear hc HI HS hX hbx v1 EI EL ER XX
      by_cases h1 : r.kind = 1
      · have g1 : (r.kind == 1) = true := by rw [h1]; rfl
        have S1 : Hid (stepS ms (L.map (·.1)) r = if hasS (L.map (·.1)) (idC r.c) then L.map (·.1) else L.map (·.1) ++ [newS r]) := Lib.hid (by unfold stepS; rw [if_pos h1])
        have IL := Lib.hid (Nat.le_trans (idC_len r.c) (show (16 : Nat) ≤ 1000000 by decide))
        clear h1
        have k0X := k0 X SW
        go_wp2_with (first
          | (refine wpList_load_mid rfl 56 (.tmp 18) rfl b (off + k * 21) rfl (rvL r) _ HC.out Tryz.underlying56 rfl (mrec_szL r) ?_)
          | (refine wpList_store_mid rfl 56 (.tmp 9) (.tmp 19) rfl wr.heap.size 0 (rvL r).toArray rfl rfl (there_of_row (heap_alloc_new wr _) (Nat.le_refl 21)) (mrec_szA r) ONE.out ?_; rw [List.toList_toArray, FS.out _ rfl, ← X0.out, X1.out])
          | (refine wpList_load_mid rfl 56 (.tmp 9) rfl bx 0 rfl (rvL r) _ (RX.out X SW) Tryz.underlying56 rfl (mrec_szL r) ?_))
        (with_reducible refine IDC.out.mono ?_)
        rintro e u1 ⟨rfl, b1⟩
        have O1 : OldB X u1 := b1
        have E1 := Lib.hid (EX.out.call b1)
        clear b1 IDC EX k0X X0 X1 FS
        have KS := key_str (idC r.c) IL.out
        have lk := E1.out.mp.look strK Tryz.underlying95 (zPtr u1) KS
        cases hf : findE L (idC r.c) with
        | some q =>
          have lv : ((ptrM L (.string (idC r.c))).getD (.pointer none)) = .pointer (some ⟨q.2, 0, none⟩) := by
            show ((findE L (idC r.c)).map pv).getD _ = _
            rw [hf]; rfl
          rw [lv] at lk
          have TK : Hid (entS ms (l.take (k + 1)) = L.map (·.1)) := Lib.hid (by rw [ST.out, S1.out, findE_has hf, if_pos rfl])
          clear hf lv KS k0 k1 k6 k7 ST S1
          go_wp2_with fail
          exact ⟨⟨k + 1, by omega, by go_num, ⟨_, rfl⟩, ⟨_, rfl⟩, ⟨_, rfl⟩, ⟨_, rfl⟩, Lib.hid ⟨L, nk, E1.out, TK.out.symm⟩⟩, by simp [intOf]; omega⟩
        | none =>
          have lv : ((ptrM L (.string (idC r.c))).getD (.pointer none)) = .pointer none := by
            show ((findE L (idC r.c)).map pv).getD _ = _
            rw [hf]; rfl
          rw [lv] at lk
          have TK : Hid (entS ms (l.take (k + 1)) = L.map (·.1) ++ [newS r]) := Lib.hid (by rw [ST.out, S1.out, findE_no hf, if_neg (by decide)])
          have HF := Lib.hid hf
          have k6u := k6 u1 O1
          have OWA : Hid (∀ o, (u1.alloc o).ownsRow V.heap.size 98 1 u6 L.length (L.map pv)) := Lib.hid (fun o => own_below E1.out.own ((Below.refl _ _).alloc (Nat.le_refl _) _) (Nat.le_refl _))
          have bzu := E1.out.bel.size
          have RW : Hid ((#[.slice A1 r.edits.length c1, .string (mkB (idC r.c)), .int .i64 1, .string ⟨#[]⟩, .slice A1 r.edits.length c1] : Array Value) = enRow (newS r)) := Lib.hid (by unfold enRow newS; dsimp only; rw [V1.out]; rfl)
          have lk1 := LK.out
          have NK := Lib.hid E1.out.nk
          have KSH := Lib.hid KS
          clear hf lv KS k0 k1 k6 k7 ST S1
          go_wp2_with (at_builtin; refine wpList_appNG rfl (.tmp 41) (.tmp 43) 94 rfl Tryz.underlying94 info_ptr rfl (by decide) V.heap.size _ L.length (L.map pv) _ 1 (by decide) rfl (by intro y hy; simp at hy; rw [hy]; rfl) rfl rfl (by simp) (OWA.out _) (by simp; omega) (by omega) (by omega) ?_; intro g7 c7 w7 ho7 hg7 hl7 hb7; obtain ⟨w8, hup, hm8, hg8⟩ := (E1.out.map7 hg7).upd strK Tryz.underlying95 (by have := NK.out; unfold maxLen; omega) KSH.out (.pointer (some ⟨u1.heap.size, 0, none⟩)); rw [RW.out] at hg7)
          refine ⟨⟨k + 1, by omega, by go_num, ⟨_, rfl⟩, ⟨_, rfl⟩, ⟨_, rfl⟩, ⟨_, rfl⟩, Lib.hid ⟨L ++ [(newS r, u1.heap.size)], _, EnI.add E1.out (newS r) HF.out ho7 hg7 hm8 hg8 ?_, ?_⟩⟩, by simp [intOf]; omega⟩
          · have := NK.out; split <;> omega
          · rw [TK.out, List.map_append]; rfl
      · have g1 : (r.kind == 1) = false := by simpa using h1
        have h1H := Lib.hid h1
        have k0X := k0 X SW
        clear h1
        by_cases h3 : r.kind = 3
        · have g3 : (r.kind == 3) = true := by rw [h3]; rfl
          have S3 : Hid (stepS ms (L.map (·.1)) r = if inI ms r.author then (L.map (·.1)).map (obeyS r) else L.map (·.1)) := Lib.hid (by unfold stepS; rw [if_neg h1H.out, if_pos h3])
          clear h3 h1H
          have KS := key_str r.target HR.out.2.target
          have lk := EX.out.mp.look strK Tryz.underlying95 (zPtr X) KS
          have k7X := k7 X SW
          cases hf : findE L r.target with
          | none =>
            have lv : ((ptrM L (.string r.target)).getD (.pointer none)) = .pointer none := by
              show ((findE L r.target).map pv).getD _ = _
              rw [hf]; rfl
            rw [lv] at lk
            have TK : Hid (entS ms (l.take (k + 1)) = L.map (·.1)) := Lib.hid (by rw [ST.out, S3.out, map_self (findE_no hf)]; split <;> rfl)
            clear hf lv KS k0 k1 k6 k7 ST S3 IDC
            go_wp2_with (first
          | (refine wpList_load_mid rfl 56 (.tmp 18) rfl b (off + k * 21) rfl (rvL r) _ HC.out Tryz.underlying56 rfl (mrec_szL r) ?_)
          | (refine wpList_store_mid rfl 56 (.tmp 9) (.tmp 19) rfl wr.heap.size 0 (rvL r).toArray rfl rfl (there_of_row (heap_alloc_new wr _) (Nat.le_refl 21)) (mrec_szA r) ONE.out ?_; rw [List.toList_toArray, FS.out _ rfl, ← X0.out, X1.out])
          | (refine wpList_load_mid rfl 56 (.tmp 9) rfl bx 0 rfl (rvL r) _ (RX.out X SW) Tryz.underlying56 rfl (mrec_szL r) ?_))
            exact ⟨⟨k + 1, by omega, by go_num, ⟨_, rfl⟩, ⟨_, rfl⟩, ⟨_, rfl⟩, ⟨_, rfl⟩, Lib.hid ⟨L, nk, EX.out, TK.out.symm⟩⟩, by simp [intOf]; omega⟩
          | some q =>
            have lv : ((ptrM L (.string r.target)).getD (.pointer none)) = .pointer (some ⟨q.2, 0, none⟩) := by
              show ((findE L r.target).map pv).getD _ = _
              rw [hf]; rfl
            rw [lv] at lk
            have HF := Lib.hid hf
            have k1X := k1 X SW
            have CX := Lib.hid (CT.out r.author X VX)
            have MVX := MV X VX
            have MVH := Lib.hid MV
            clear hf lv KS k0 k1 k6 k7 IDC MV
            go_wp2_with (first
          | (refine wpList_load_mid rfl 56 (.tmp 18) rfl b (off + k * 21) rfl (rvL r) _ HC.out Tryz.underlying56 rfl (mrec_szL r) ?_)
          | (refine wpList_store_mid rfl 56 (.tmp 9) (.tmp 19) rfl wr.heap.size 0 (rvL r).toArray rfl rfl (there_of_row (heap_alloc_new wr _) (Nat.le_refl 21)) (mrec_szA r) ONE.out ?_; rw [List.toList_toArray, FS.out _ rfl, ← X0.out, X1.out])
          | (refine wpList_load_mid rfl 56 (.tmp 9) rfl bx 0 rfl (rvL r) _ (RX.out X SW) Tryz.underlying56 rfl (mrec_szL r) ?_))
            (with_reducible refine CX.out.mono ?_)
            rintro e u1 ⟨rfl, b1⟩
            have O1 : OldB X u1 := b1
            have E1 := Lib.hid (EX.out.call b1)
            clear b1 EX CX k0X k7X k1X lk MVX X0 X1 FS
            cases hi : inI ms r.author
            · have TK : Hid (entS ms (l.take (k + 1)) = L.map (·.1)) := Lib.hid (by rw [ST.out, S3.out, hi]; rfl)
              clear hi ST S3
              go_wp2_with fail
              exact ⟨⟨k + 1, by omega, by go_num, ⟨_, rfl⟩, ⟨_, rfl⟩, ⟨_, rfl⟩, ⟨_, rfl⟩, Lib.hid ⟨L, nk, E1.out, TK.out.symm⟩⟩, by simp [intOf]; omega⟩
            · have TK : Hid (entS ms (l.take (k + 1)) = (L.map (·.1)).map (obeyS r)) := Lib.hid (by rw [ST.out, S3.out, hi]; rfl)
              have OB := Lib.hid (obey_any V q.2 q.1 r u1 E1.out.bel (E1.out.big q (findE_yes HF.out).1) (E1.out.box q (findE_yes HF.out).1) (HV.out.is r HRM.out) HR.out.2 TV.out (OWN.out q (findE_yes HF.out).1))
              unfold rvA at OB
              clear hi ST S3
              go_wp2_with (refine wpList_load_mid rfl 56 (.tmp 9) rfl bx 0 rfl (rvL r) _ (RX.out u1 O1) Tryz.underlying56 rfl (mrec_szL r) ?_)
              (with_reducible refine OB.out.mono ?_)
              rintro e u2 ⟨rfl, EP⟩
              have E2 := Lib.hid (E1.out.obey HF.out EP)
              clear EP OB E1
              go_wp2_with fail
              refine ⟨⟨k + 1, by omega, by go_num, ⟨_, rfl⟩, ⟨_, rfl⟩, ⟨_, rfl⟩, ⟨_, rfl⟩, Lib.hid ⟨_, nk, E2.out, ?_⟩⟩, by simp [intOf]; omega⟩
              rw [TK.out, List.map_map, List.map_map]; rfl
        · have g3 : (r.kind == 3) = false := by simpa using h3
          have TK : Hid (entS ms (l.take (k + 1)) = L.map (·.1)) := Lib.hid (by rw [ST.out]; unfold stepS; rw [if_neg h1H.out, if_neg h3])
          clear h3 h1H k0 k1 k6 k7 ST IDC
          go_wp2_with (first
          | (refine wpList_load_mid rfl 56 (.tmp 18) rfl b (off + k * 21) rfl (rvL r) _ HC.out Tryz.underlying56 rfl (mrec_szL r) ?_)
          | (refine wpList_store_mid rfl 56 (.tmp 9) (.tmp 19) rfl wr.heap.size 0 (rvL r).toArray rfl rfl (there_of_row (heap_alloc_new wr _) (Nat.le_refl 21)) (mrec_szA r) ONE.out ?_; rw [List.toList_toArray, FS.out _ rfl, ← X0.out, X1.out])
          | (refine wpList_load_mid rfl 56 (.tmp 9) rfl bx 0 rfl (rvL r) _ (RX.out X SW) Tryz.underlying56 rfl (mrec_szL r) ?_))
          exact ⟨⟨k + 1, by omega, by go_num, ⟨_, rfl⟩, ⟨_, rfl⟩, ⟨_, rfl⟩, ⟨_, rfl⟩, Lib.hid ⟨L, nk, EX.out, TK.out.symm⟩⟩, by simp [intOf]; omega⟩
    · have d1 : ¬ (k : Int) < (n : Int) := by omega
      have TT : Hid (l.take k = l) := Lib.hid (List.take_of_length_le (by rw [← HN.out]; omega))
      rw [TT.out] at ER
      go_wp2_with fail
      go_ret2
      obtain ⟨L, nk, EI, EL⟩ := ER.out
      exact ⟨_, bm, rfl, L, ⟨nk, FB.out _ _ _ _ EI⟩, EL⟩
end Go.Proofs.YtniklmikdkjgiaaGreatDoor
