import Derived.Test.YtniklmikdkjgiaaGreatDoorcTO
set_option linter.all false
set_option maxHeartbeats 16000000
set_option maxRecDepth 100000
namespace Go.Proofs.YtniklmikdkjgiaaGreatDoor
open Go.RowKit Go.Maps Go.ChangeMaps Go.MapKept Go.WideShapes Go.WideMaps
theorem idC_len (c : Rc) : (idC c).length ≤ 16 := by
  unfold idC
  split
  · have := Dg.sumL_isD (Dg.joined (pubF c))
    unfold Dg.isD at this
    rw [Bool.and_eq_true, decide_eq_true_eq] at this
    omega
  · exact Nat.zero_le _
theorem EnI.base {w0 V w : World} {bm : Nat} {L : List (Sx × Nat)} {v : Value} {nk : Nat} (h : EnI V w bm L v nk) (hb : Below w0.heap.size w0 V) : EnI w0 w bm L v nk :=
  ⟨hb.trans (h.bel.mono hb.size), h.mp, Nat.le_trans hb.size h.bmb, h.box, fun q hq => Nat.le_trans hb.size (h.big q hq), own_baseG hb.size h.own, h.nd, h.nd2, h.nk⟩
def EnR (V w : World) (bm : Nat) (ms : List Int) (l : List RV) (v : Value) : Prop := ∃ L nk, EnI V w bm L v nk ∧ L.map (·.1) = entS ms l
theorem EnR.bel {V w : World} {bm : Nat} {ms : List Int} {l : List RV} {v : Value} (h : EnR V w bm ms l v) : Below V.heap.size V w := by obtain ⟨L, nk, h, -⟩ := h; exact h.bel
theorem entries_any (A : Option Addr) (n c : Nat) (l : List RV) (x : WoV) (w : World) (hn : n = l.length) (h : Rs w A l) (hx : WoIs w x) (hm : x.mods.length ≤ 1000000) (ht : Tab w) :
    Calls Tryz.prog 64 #[.slice A n c, woA x] w fun e w' => ∃ v bm L nk, e = .returned (.tuple #[v, .map (some bm)]) ∧ EnI w w' bm L v nk ∧ L.map (·.1) = entS x.mods l := by
  have hl : n ≤ 100000 := by rw [hn]; exact h.len
  have H := Lib.hid h
  have HN := Lib.hid hn
  have HT := Lib.hid ht
  obtain ⟨A2, c2, e2, hr2⟩ := hx.ms
  unfold woA
  obtain ⟨bw, hbw⟩ : ∃ bw, w.heap.size = bw := ⟨_, rfl⟩
  obtain ⟨bm, hbm⟩ : ∃ bm, w.heap.size + 1 = bm := ⟨_, rfl⟩
  obtain ⟨V, hV⟩ : ∃ V, V = w.alloc (.cells (woL x).toArray 38) := ⟨_, rfl⟩
  obtain ⟨W, hW⟩ : ∃ W, W = V.alloc (.map #[] 0) := ⟨_, rfl⟩
  have hz : V.heap.size = bm := by rw [hV]; simpa using hbm
  have BV : Below w.heap.size w V := by rw [hV]; exact (Below.refl _ _).alloc (Nat.le_refl _) _
  have BW : OldB V W := by rw [hW]; exact (Below.refl _ _).alloc (Nat.le_refl _) _
  have XV : V.heap[bw]? = some (.cells (woL x).toArray 38 (0, 0)) := by rw [hV, ← hbw]; exact heap_alloc_new w _
  have XVL := lt_of_block XV
  have MV : ∀ u, OldB V u → u.cell? ⟨bw, 2, none⟩ = some (.slice A2 x.mods.length c2) := fun u hu => by
    have := load_block (i := 2) ((Below.block hu bw XVL).trans XV) rfl
    rw [← e2]; exact this
  have I0 : Hid (EnR V W bm x.mods (l.take 0) (.slice none 0 0)) := Lib.hid ⟨[], 0, ⟨BW, by
    have := MapAt.made V Tryz.prog 9
    rw [← hW, hz] at this
    have e : ptrM [] = fun _ => none := by funext y; cases y <;> rfl
    rw [e]; exact this, by omega, (fun q hq => by cases hq), (fun q hq => by cases hq), World.ownsRow_nil _ _ _ _, List.nodup_nil, List.nodup_nil, Nat.le_refl _⟩, by rw [List.take_zero]; rfl⟩
  have CT : Hid (∀ a u, OldB V u → Calls Tryz.prog 103 #[.slice A2 x.mods.length c2, .int .i64 a] u fun e w' => e = .returned (.bool (inI x.mods a)) ∧ Below u.heap.size u w') := Lib.hid (fun a u hu => contains_any A2 _ c2 x.mods a u rfl hm (hr2.below (BV.trans (Below.mono hu BV.size))))
  have HV : Hid (Rs V A l) := Lib.hid (h.below BV)
  have TV : Hid (Tab V) := Lib.hid (ht.keep BV)
  have FB : Hid (∀ L v nk u, EnI V u bm L v nk → EnI w u bm L v nk) := Lib.hid (fun L v nk u hu => hu.base BV)
  generalize x.mods = ms at *
  obtain ⟨nm, hnm⟩ : ∃ nm, ms.length = nm := ⟨_, rfl⟩
  rw [hnm] at MV CT
  generalize (woL x).toArray = xw at *
  have X1 := Lib.hid hbw
  have X2 := Lib.hid hz
  have X0 := Lib.hid hW
  have XV0 := Lib.hid hV
  clear h hn ht hx hm hbw hbm hW hV hz hr2 e2 BW BV hnm XV XVL H HT
  have mk : ∀ u : World, (Instr.makeMap 95 none).run Tryz.prog u = .ok (.map (some u.heap.size)) (u.alloc (.map #[] 0)) := fun u => run_makeMap _ _
  go_enter Tryz.func64, Tryz.ntmps64
  go_upto_region 2 with fail
  rw [← XV0.out, X1.out]
  go_upto_region 3 with fail
  rw [← X0.out, X2.out]
  clear X0 X1 X2 XV0 mk
  go_wp2_with fail
  go_loopw [6, 9, 10, 11, 12, 16] (fun s6 s9 s10 s11 s12 s16 wr => ∃ k : Nat, k ≤ n ∧ s16 = .int .i64 (k : Int) ∧ (∃ p, s9 = p) ∧ (∃ p, s10 = p) ∧ (∃ p, s11 = p) ∧ (∃ p, s12 = p) ∧ Hid (EnR V wr bm ms (l.take k) s6)) (fun _ _ _ _ _ i _ => n - (intOf i).toNat)
  case atStart => exact ⟨0, Nat.zero_le _, rfl, ⟨_, rfl⟩, ⟨_, rfl⟩, ⟨_, rfl⟩, ⟨_, rfl⟩, I0⟩
  case round =>
    clear I0
    obtain ⟨k, hk, rfl, ⟨p9, rfl⟩, ⟨p10, rfl⟩, ⟨p11, rfl⟩, ⟨p12, rfl⟩, ER⟩ := hrel
    by_cases hlt : k < n
    · have hkl : k < l.length := by rw [← HN.out]; exact hlt
      have d1 : (k : Int) < (n : Int) := by omega
      have d2 : (0 : Int) ≤ (k : Int) := by omega
      have OW : OldB V wr := ER.out.bel
      obtain ⟨L, nk, EI, EL⟩ := ER.out
      have ST : Hid (entS ms (l.take (k + 1)) = stepS ms (entS ms (l.take k)) l[k]) := Lib.hid (entS_take ms l hkl)
      rw [← EL] at ST
      have OWN : Hid (∀ q ∈ L, AnySl q.1.own.edv) := Lib.hid (fun q hq => by
        have hm : q.1 ∈ entS ms (l.take k) := by rw [← EL]; exact List.mem_map.2 ⟨q, hq, rfl⟩
        obtain ⟨A9, c9, e9, -⟩ := (HV.out.is _ (List.mem_of_mem_take (entS_from ms _ _ hm).own)).ed
        exact ⟨A9, _, c9, e9⟩)
      have LK : Hid (L.length ≤ k) := Lib.hid (by
        have e1 := congrArg List.length EL
        have e3 := entS_len ms (l.take k)
        rw [List.length_map] at e1
        rw [List.length_take] at e3
        omega)
      obtain ⟨b, off, rfl, hb, hc⟩ := rvs_at (HV.out.rd.below OW) hkl
      have HI := HV.out.is l[k] (List.getElem_mem hkl)
      have HS := HV.out.sz l[k] (List.getElem_mem hkl)
      have HRM : Hid (l[k] ∈ l) := Lib.hid (List.getElem_mem hkl)
      generalize l[k] = r at *
      obtain ⟨A1, c1, v1, -⟩ := HI.ed
      have ONE := Lib.hid (rvL_one r ⟨_, HI⟩)
      have HC : Hid (wr.rangeAt b (off + k * 21) (rvL r)) := Lib.hid (fun j v hj => hc j v hj)
      obtain ⟨X, hX⟩ : ∃ X, X = wr.alloc (.cells (rvL r).toArray 56) := ⟨_, rfl⟩
      obtain ⟨bx, hbx⟩ : ∃ bx, wr.heap.size = bx := ⟨_, rfl⟩
      have BX : OldB wr X := by rw [hX]; exact (Below.refl _ _).alloc (Nat.le_refl _) _
      have XX : X.heap[bx]? = some (.cells (rvL r).toArray 56 (0, 0)) := by rw [hX, ← hbx]; exact heap_alloc_new wr _
      have XL := lt_of_block XX
      have RX : Hid (∀ u, OldB X u → u.rangeAt bx 0 (rvL r)) := Lib.hid (fun u hu => by have := range_of_row ((hu.block bx XL).trans XX); simpa using this)
      have k0 : ∀ u, OldB X u → u.cell? ⟨bx, 0, none⟩ = some (.int .i64 r.kind) := fun u hu => by have := RX.out u hu 0 _ rfl; simpa using this
      have k1 : ∀ u, OldB X u → u.cell? ⟨bx, 1, none⟩ = some (.int .i64 r.author) := fun u hu => by have := RX.out u hu 1 _ rfl; simpa using this
      have k6 : ∀ u, OldB X u → u.cell? ⟨bx, 6, none⟩ = some (.slice A1 r.edits.length c1) := fun u hu => by have := RX.out u hu 6 _ rfl; rw [← v1]; simpa using this
      have k7 : ∀ u, OldB X u → u.cell? ⟨bx, 7, none⟩ = some (.string (mkB r.target)) := fun u hu => by have := RX.out u hu 7 _ rfl; simpa using this
      have VX : OldB V X := OW.then BX
      have SW : OldB X X := Below.refl _ _
      have EX := Lib.hid (EI.call BX)
      have V1 := Lib.hid v1
      have IDC := Lib.hid (id_any r X (HI.below VX) HS (TV.out.keep VX))
      unfold rvA at IDC
      have HR := Lib.hid (And.intro HI HS)
      have X1 := Lib.hid hbx
      have X0 := Lib.hid hX
      have FS := Lib.hid (fun z (hz : z.length = 21) => setCells_fresh wr z (rvL r) hz rfl ONE.out)
      clear hc HI HS hX hbx v1 EI EL ER XX
      by_cases h1 : r.kind = 1
      · have g1 : (r.kind == 1) = true := by rw [h1]; rfl
        have S1 : Hid (stepS ms (L.map (·.1)) r = if hasS (L.map (·.1)) (idC r.c) then L.map (·.1) else L.map (·.1) ++ [newS r]) := Lib.hid (by unfold stepS; rw [if_pos h1])
        have IL := Lib.hid (Nat.le_trans (idC_len r.c) (show (16 : Nat) ≤ 1000000 by decide))
        clear h1
        have k0X := k0 X SW
        go_wp2_with (first
          | (refine wpList_load_mid rfl 56 (.tmp 18) rfl b (off + k * 21) rfl (rvL r) _ HC.out Tryz.underlying56 rfl (mrec_szL r) ?_)
          | (refine wpList_store_mid rfl 56 (.tmp 9) (.tmp 19) rfl wr.heap.size 0 (rvL r).toArray rfl rfl (there_of_row (heap_alloc_new wr _) (Nat.le_refl 21)) (mrec_szA r) ONE.out ?_; rw [List.toList_toArray, FS.out _ rfl, ← X0.out, X1.out])
          | (refine wpList_load_mid rfl 56 (.tmp 9) rfl bx 0 rfl (rvL r) _ (RX.out X SW) Tryz.underlying56 rfl (mrec_szL r) ?_))
        (with_reducible refine IDC.out.mono ?_)
        rintro e u1 ⟨rfl, b1⟩
        have O1 : OldB X u1 := b1
        have E1 := Lib.hid (EX.out.call b1)
        clear b1 IDC EX k0X X0 X1 FS
        have KS := key_str (idC r.c) IL.out
        have lk := E1.out.mp.look strK Tryz.underlying95 (zPtr u1) KS
        cases hf : findE L (idC r.c) with
        | some q =>
          have lv : ((ptrM L (.string (idC r.c))).getD (.pointer none)) = .pointer (some ⟨q.2, 0, none⟩) := by
            show ((findE L (idC r.c)).map pv).getD _ = _
            rw [hf]; rfl
          rw [lv] at lk
          have TK : Hid (entS ms (l.take (k + 1)) = L.map (·.1)) := Lib.hid (by rw [ST.out, S1.out, findE_has hf, if_pos rfl])
          clear hf lv KS k0 k1 k6 k7 ST S1
          go_wp2_with fail
          exact ⟨⟨k + 1, by omega, by go_num, ⟨_, rfl⟩, ⟨_, rfl⟩, ⟨_, rfl⟩, ⟨_, rfl⟩, Lib.hid ⟨L, nk, E1.out, TK.out.symm⟩⟩, by simp [intOf]; omega⟩
        | none =>
          have lv : ((ptrM L (.string (idC r.c))).getD (.pointer none)) = .pointer none := by
            show ((findE L (idC r.c)).map pv).getD _ = _
            rw [hf]; rfl
          rw [lv] at lk
          have TK : Hid (entS ms (l.take (k + 1)) = L.map (·.1) ++ [newS r]) := Lib.hid (by rw [ST.out, S1.out, findE_no hf, if_neg (by decide)])
          have HF := Lib.hid hf
          have k6u := k6 u1 O1
          have OWA : Hid (∀ o, (u1.alloc o).ownsRow V.heap.size 98 1 u6 L.length (L.map pv)) := Lib.hid (fun o => own_below E1.out.own ((Below.refl _ _).alloc (Nat.le_refl _) _) (Nat.le_refl _))
          have bzu := E1.out.bel.size
          have RW : Hid ((#[.slice A1 r.edits.length c1, .string (mkB (idC r.c)), .int .i64 1, .string ⟨#[]⟩, .slice A1 r.edits.length c1] : Array Value) = enRow (newS r)) := Lib.hid (by unfold enRow newS; dsimp only; rw [V1.out]; rfl)
          have lk1 := LK.out
          have NK := Lib.hid E1.out.nk
          have KSH := Lib.hid KS
          clear hf lv KS k0 k1 k6 k7 ST S1
          go_wp2_with (at_builtin; refine wpList_appNG rfl (.tmp 41) (.tmp 43) 94 rfl Tryz.underlying94 info_ptr rfl (by decide) V.heap.size _ L.length (L.map pv) _ 1 (by decide) rfl (by intro y hy; simp at hy; rw [hy]; rfl) rfl rfl (by simp) (OWA.out _) (by simp; omega) (by omega) (by omega) ?_; intro g7 c7 w7 ho7 hg7 hl7 hb7; obtain ⟨w8, hup, hm8, hg8⟩ := (E1.out.map7 hg7).upd strK Tryz.underlying95 (by have := NK.out; unfold maxLen; omega) KSH.out (.pointer (some ⟨u1.heap.size, 0, none⟩)); rw [RW.out] at hg7)
          refine ⟨⟨k + 1, by omega, by go_num, ⟨_, rfl⟩, ⟨_, rfl⟩, ⟨_, rfl⟩, ⟨_, rfl⟩, Lib.hid ⟨L ++ [(newS r, u1.heap.size)], _, EnI.add E1.out (newS r) HF.out ho7 hg7 hm8 hg8 ?_, ?_⟩⟩, by simp [intOf]; omega⟩
          · have := NK.out; split <;> omega
          · rw [TK.out, List.map_append]; rfl
      · have g1 : (r.kind == 1) = false := by simpa using h1
        have h1H := Lib.hid h1
        have k0X := k0 X SW
        clear h1
        by_cases h3 : r.kind = 3
        · have g3 : (r.kind == 3) = true := by rw [h3]; rfl
          have S3 : Hid (stepS ms (L.map (·.1)) r = if inI ms r.author then (L.map (·.1)).map (obeyS r) else L.map (·.1)) := Lib.hid (by unfold stepS; rw [if_neg h1H.out, if_pos h3])
          clear h3 h1H
          have KS := key_str r.target HR.out.2.target
          have lk := EX.out.mp.look strK Tryz.underlying95 (zPtr X) KS
          have k7X := k7 X SW
          cases hf : findE L r.target with
          | none =>
            have lv : ((ptrM L (.string r.target)).getD (.pointer none)) = .pointer none := by
              show ((findE L r.target).map pv).getD _ = _
              rw [hf]; rfl
            rw [lv] at lk
            have TK : Hid (entS ms (l.take (k + 1)) = L.map (·.1)) := Lib.hid (by rw [ST.out, S3.out, map_self (findE_no hf)]; split <;> rfl)
            clear hf lv KS k0 k1 k6 k7 ST S3 IDC
            go_wp2_with (first
          | (refine wpList_load_mid rfl 56 (.tmp 18) rfl b (off + k * 21) rfl (rvL r) _ HC.out Tryz.underlying56 rfl (mrec_szL r) ?_)
          | (refine wpList_store_mid rfl 56 (.tmp 9) (.tmp 19) rfl wr.heap.size 0 (rvL r).toArray rfl rfl (there_of_row (heap_alloc_new wr _) (Nat.le_refl 21)) (mrec_szA r) ONE.out ?_; rw [List.toList_toArray, FS.out _ rfl, ← X0.out, X1.out])
          | (refine wpList_load_mid rfl 56 (.tmp 9) rfl bx 0 rfl (rvL r) _ (RX.out X SW) Tryz.underlying56 rfl (mrec_szL r) ?_))
            exact ⟨⟨k + 1, by omega, by go_num, ⟨_, rfl⟩, ⟨_, rfl⟩, ⟨_, rfl⟩, ⟨_, rfl⟩, Lib.hid ⟨L, nk, EX.out, TK.out.symm⟩⟩, by simp [intOf]; omega⟩
          | some q =>
            have lv : ((ptrM L (.string r.target)).getD (.pointer none)) = .pointer (some ⟨q.2, 0, none⟩) := by
              show ((findE L r.target).map pv).getD _ = _
              rw [hf]; rfl
            rw [lv] at lk
            have HF := Lib.hid hf
            have k1X := k1 X SW
            have CX := Lib.hid (CT.out r.author X VX)
            have MVX := MV X VX
            have MVH := Lib.hid MV
            clear hf lv KS k0 k1 k6 k7 IDC MV
            go_wp2_with (first
          | (refine wpList_load_mid rfl 56 (.tmp 18) rfl b (off + k * 21) rfl (rvL r) _ HC.out Tryz.underlying56 rfl (mrec_szL r) ?_)
          | (refine wpList_store_mid rfl 56 (.tmp 9) (.tmp 19) rfl wr.heap.size 0 (rvL r).toArray rfl rfl (there_of_row (heap_alloc_new wr _) (Nat.le_refl 21)) (mrec_szA r) ONE.out ?_; rw [List.toList_toArray, FS.out _ rfl, ← X0.out, X1.out])
          | (refine wpList_load_mid rfl 56 (.tmp 9) rfl bx 0 rfl (rvL r) _ (RX.out X SW) Tryz.underlying56 rfl (mrec_szL r) ?_))
            (with_reducible refine CX.out.mono ?_)
            rintro e u1 ⟨rfl, b1⟩
            have O1 : OldB X u1 := b1
            have E1 := Lib.hid (EX.out.call b1)
            clear b1 EX CX k0X k7X k1X lk MVX X0 X1 FS
            cases hi : inI ms r.author
            · have TK : Hid (entS ms (l.take (k + 1)) = L.map (·.1)) := Lib.hid (by rw [ST.out, S3.out, hi]; rfl)
              clear hi ST S3
              go_wp2_with fail
              exact ⟨⟨k + 1, by omega, by go_num, ⟨_, rfl⟩, ⟨_, rfl⟩, ⟨_, rfl⟩, ⟨_, rfl⟩, Lib.hid ⟨L, nk, E1.out, TK.out.symm⟩⟩, by simp [intOf]; omega⟩
            · have TK : Hid (entS ms (l.take (k + 1)) = (L.map (·.1)).map (obeyS r)) := Lib.hid (by rw [ST.out, S3.out, hi]; rfl)
              have OB := Lib.hid (obey_any V q.2 q.1 r u1 E1.out.bel (E1.out.big q (findE_yes HF.out).1) (E1.out.box q (findE_yes HF.out).1) (HV.out.is r HRM.out) HR.out.2 TV.out (OWN.out q (findE_yes HF.out).1))
              unfold rvA at OB
              clear hi ST S3
              go_wp2_with (refine wpList_load_mid rfl 56 (.tmp 9) rfl bx 0 rfl (rvL r) _ (RX.out u1 O1) Tryz.underlying56 rfl (mrec_szL r) ?_)
              (with_reducible refine OB.out.mono ?_)
              rintro e u2 ⟨rfl, EP⟩
              have E2 := Lib.hid (E1.out.obey HF.out EP)
              clear EP OB E1
              go_wp2_with fail
              refine ⟨⟨k + 1, by omega, by go_num, ⟨_, rfl⟩, ⟨_, rfl⟩, ⟨_, rfl⟩, ⟨_, rfl⟩, Lib.hid ⟨_, nk, E2.out, ?_⟩⟩, by simp [intOf]; omega⟩
              rw [TK.out, List.map_map, List.map_map]; rfl
        · have g3 : (r.kind == 3) = false := by simpa using h3
          have TK : Hid (entS ms (l.take (k + 1)) = L.map (·.1)) := Lib.hid (by rw [ST.out]; unfold stepS; rw [if_neg h1H.out, if_neg h3])
          clear h3 h1H k0 k1 k6 k7 ST IDC
          go_wp2_with (first
          | (refine wpList_load_mid rfl 56 (.tmp 18) rfl b (off + k * 21) rfl (rvL r) _ HC.out Tryz.underlying56 rfl (mrec_szL r) ?_)
          | (refine wpList_store_mid rfl 56 (.tmp 9) (.tmp 19) rfl wr.heap.size 0 (rvL r).toArray rfl rfl (there_of_row (heap_alloc_new wr _) (Nat.le_refl 21)) (mrec_szA r) ONE.out ?_; rw [List.toList_toArray, FS.out _ rfl, ← X0.out, X1.out])
          | (refine wpList_load_mid rfl 56 (.tmp 9) rfl bx 0 rfl (rvL r) _ (RX.out X SW) Tryz.underlying56 rfl (mrec_szL r) ?_))
          exact ⟨⟨k + 1, by omega, by go_num, ⟨_, rfl⟩, ⟨_, rfl⟩, ⟨_, rfl⟩, ⟨_, rfl⟩, Lib.hid ⟨L, nk, EX.out, TK.out.symm⟩⟩, by simp [intOf]; omega⟩
    · have d1 : ¬ (k : Int) < (n : Int) := by omega
      have TT : Hid (l.take k = l) := Lib.hid (List.take_of_length_le (by rw [← HN.out]; omega))
      rw [TT.out] at ER
      go_wp2_with fail
      go_ret2
      obtain ⟨L, nk, EI, EL⟩ := ER.out
      exact ⟨_, bm, rfl, L, ⟨nk, FB.out _ _ _ _ EI⟩, EL⟩
end Go.Proofs.YtniklmikdkjgiaaGreatDoor
namespace Go.Proofs.YtniklmikdkjgiaaGreatDoor
open Go.RowKit Go.Maps Go.ChangeMaps Go.MapKept Go.WideShapes Go.WideMaps
def stL (e : Sx) : List Value := [.string (mkB e.id), .int .i64 e.st, .string (mkB e.by_), e.cur.edv]
def stsL (l : List Sx) : List Value := l.flatMap stL
theorem stsL_app (l m : List Sx) : stsL (l ++ m) = stsL l ++ stsL m := List.flatMap_append ..
theorem stsL_one (e : Sx) : stsL [e] = stL e := by simp [stsL]
theorem info_st : (Tryz.prog.info? 42).map (fun i => (i.zero, i.size, i.bytes)) = some (some (.agg #[.string ⟨#[]⟩, .int .i64 0, .string ⟨#[]⟩, .slice none 0 0]), 4, 64) := by kernel_rfl
theorem mwo_szL (x : WoV) : (Tryz.prog.info? 38).map (·.size) = some (woL x).length := by kernel_rfl
theorem ptrs_at {w : World} {A : Option Addr} {L : List (Sx × Nat)} (h : Rd w A (L.map pv)) {k : Nat} (hk : k < L.length) : ∃ b off, A = some ⟨b, off, none⟩ ∧ b < w.heap.size ∧ w.cell? ⟨b, off + k, none⟩ = some (.pointer (some ⟨L[k].2, 0, none⟩)) := by
  obtain ⟨b, off, e, hb, hc⟩ := h (by simpa using Nat.lt_of_le_of_lt (Nat.zero_le _) hk)
  exact ⟨b, off, e, hb, hc k _ (by rw [List.getElem?_map, List.getElem?_eq_getElem hk]; rfl)⟩
theorem en_st {w : World} {p : Nat} {e : Sx} (h : w.heap[p]? = some (.cells (enRow e) 100 (0, 0))) : w.rangeAt p 1 (stL e) := fun j v hj => by
  match j, hj with
  | 0, hj => exact load_block (i := 1) h hj
  | 1, hj => exact load_block (i := 2) h hj
  | 2, hj => exact load_block (i := 3) h hj
  | 3, hj => exact load_block (i := 4) h hj
theorem rd_rows {w : World} {A : Option Addr} {α : Type} {f : α → List Value} {l : List α} (m : Nat) (hm : 0 < m) (hf : ∀ a, (f a).length = m) (h : Rd w A (l.flatMap f)) {k : Nat} (hk : k < l.length) : ∃ b off, A = some ⟨b, off, none⟩ ∧ b < w.heap.size ∧ w.rangeAt b (off + k * m) (f l[k]) := by
  obtain ⟨b, off, e, hb, hc⟩ := h (by rw [flat_len f m hf]; exact Nat.mul_pos (Nat.lt_of_le_of_lt (Nat.zero_le _) hk) hm)
  refine ⟨b, off, e, hb, fun j v hj => ?_⟩
  have := hc (k * m + j) v (flat_get f m hf hk hj)
  rwa [← Nat.add_assoc] at this
theorem status_any (A : Option Addr) (n c : Nat) (l : List RV) (x : WoV) (w : World) (hn : n = l.length) (h : Rs w A l) (hx : WoIs w x) (hm : x.mods.length ≤ 1000000) (ht : Tab w) :
    Calls Tryz.prog 32 #[.slice A n c, woA x] w fun e w' => ∃ v, e = .returned v ∧ w'.ownsRow w.heap.size 42 4 v (entS x.mods l).length (stsL (entS x.mods l)) ∧ Below w.heap.size w w' := by
  have hl : n ≤ 100000 := by rw [hn]; exact h.len
  obtain ⟨V, hV⟩ : ∃ V, V = w.alloc (.cells (woL x).toArray 38) := ⟨_, rfl⟩
  obtain ⟨bw, hbw⟩ : ∃ bw, w.heap.size = bw := ⟨_, rfl⟩
  have BV : Below w.heap.size w V := by rw [hV]; exact (Below.refl _ _).alloc (Nat.le_refl _) _
  have RV0 : V.rangeAt bw 0 (woL x) := by have := range_of_row (show V.heap[bw]? = some (.cells (woL x).toArray 38 (0, 0)) by rw [hV, ← hbw]; exact heap_alloc_new w _); simpa using this
  have EC := entries_any A n c l x V hn (h.below BV) (hx.below BV) hm (ht.keep BV)
  have LE : (entS x.mods l).length ≤ n := by rw [hn]; exact entS_len _ _
  have FR : Hid (∀ e ∈ entS x.mods l, ∃ A c, e.cur.edv = .slice A e.cur.edits.length c) := Lib.hid (fun e he => by
    obtain ⟨A, c, e1, -⟩ := (h.is _ (entS_from _ _ e he).cur).ed
    exact ⟨A, c, e1⟩)
  have SZ := mwo_szL x
  unfold woA at EC ⊢
  generalize entS x.mods l = es at *
  generalize woL x = xw at *
  have X0 := Lib.hid hV
  have X1 := Lib.hid hbw
  have ECH := Lib.hid EC
  have R0 := Lib.hid RV0
  have BVH := Lib.hid BV
  have SZH := Lib.hid SZ
  clear h hx hm ht hV hbw EC RV0 BV hn SZ
  go_enter Tryz.func32, Tryz.ntmps32
  go_upto_region 1 with fail
  rw [← X0.out, X1.out]
  clear X0
  go_wp2_with (refine wpList_load_mid rfl 38 (.tmp 3) rfl bw 0 rfl xw _ R0.out Tryz.underlying38 rfl SZH.out ?_)
  (with_reducible refine ECH.out.mono ?_)
  rintro e u1 ⟨v, bm, L, nk, rfl, EI, EL⟩
  obtain ⟨A1, c1, rfl, hR, -⟩ := own_slG EI.own
  obtain ⟨m, hm⟩ : ∃ m, L.length = m := ⟨_, rfl⟩
  have HM := Lib.hid hm
  have EM : Hid (es.length = m) := Lib.hid (by rw [← EL, List.length_map, hm])
  rw [hm]
  have I1 := Lib.hid EI
  have ELH := Lib.hid EL
  have RH := Lib.hid hR
  have B1 : Hid (Below w.heap.size w u1) := Lib.hid (BVH.out.trans (EI.bel.mono BVH.out.size))
  have S0 : Hid (u1.ownsRow u1.heap.size 42 4 (.slice none 0 0) 0 (stsL (es.take 0))) := Lib.hid (World.ownsRow_nil _ _ _ _)
  have hmn : m ≤ n := by rw [← EM.out]; exact LE
  clear EI EL hR ECH R0 SZH hm LE BVH
  go_wp2_with fail
  go_loopw [7, 9, 18] (fun s7 s9 s18 wr => ∃ k : Nat, k ≤ m ∧ s18 = .int .i64 (k : Int) ∧ (∃ p, s9 = p) ∧ Hid (wr.ownsRow u1.heap.size 42 4 s7 k (stsL (es.take k))) ∧ Hid (OldB u1 wr)) (fun _ _ i _ => m - (intOf i).toNat)
  case atStart => exact ⟨0, Nat.zero_le _, rfl, ⟨_, rfl⟩, S0, Lib.hid (Below.refl _ _)⟩
  case round =>
    clear S0
    obtain ⟨k, hk, rfl, ⟨p9, rfl⟩, OW, OH⟩ := hrel
    by_cases hlt : k < m
    · have hkL : k < L.length := by rw [HM.out]; exact hlt
      have hke : k < es.length := by rw [EM.out]; exact hlt
      have d1 : (k : Int) < (m : Int) := by omega
      have d2 : (0 : Int) ≤ (k : Int) := by omega
      have EK := I1.out.call OH.out
      obtain ⟨b, off, rfl, -, ck⟩ := ptrs_at (RH.out.below OH.out) hkL
      have bk := en_st (EK.box L[k] (List.getElem_mem hkL))
      have ee : L[k].1 = es[k] := by simp [← ELH.out]
      rw [ee] at bk
      obtain ⟨A4, c4, e4⟩ := FR.out es[k] (List.getElem_mem hke)
      have TK : Hid (stsL (es.take (k + 1)) = stsL (es.take k) ++ [.string (mkB es[k].id), .int .i64 es[k].st, .string (mkB es[k].by_), .slice A4 es[k].cur.edits.length c4]) := Lib.hid (by rw [List.take_succ_eq_append_getElem hke, stsL_app, stsL_one]; unfold stL; rw [e4])
      generalize L[k].2 = p at *
      generalize es[k] = e at *
      have q0 : wr.cell? ⟨p, 1, none⟩ = some (.string (mkB e.id)) := bk 0 _ rfl
      have q1 : wr.cell? ⟨p, 2, none⟩ = some (.int .i64 e.st) := bk 1 _ rfl
      have q2 : wr.cell? ⟨p, 3, none⟩ = some (.string (mkB e.by_)) := bk 2 _ rfl
      have q3 : wr.cell? ⟨p, 4, none⟩ = some (.slice A4 e.cur.edits.length c4) := (bk 3 _ rfl).trans (by rw [e4])
      have bz : u1.heap.size ≤ wr.heap.size := Below.size OH.out
      clear bk ee e4 EK
      go_wp2_with (at_builtin; refine wpList_appNG rfl (.tmp 22) (.tmp 27) 46 rfl Tryz.underlying46 info_st rfl (by decide) u1.heap.size _ k (stsL (es.take k)) _ 1 (by decide) rfl (by intro y hy; simp at hy; rcases hy with rfl | rfl | rfl | rfl <;> rfl) rfl rfl rfl OW.out bz (by omega) (by omega) ?_; intro g7 c7 w7 ho7 hg7 hl7 hb7)
      refine ⟨⟨k + 1, by omega, by go_num, ⟨_, rfl⟩, ?_, Lib.hid (OH.out.trans hb7)⟩, by simp [intOf]; omega⟩
      rw [TK.out]; exact Lib.hid ho7
    · have d1 : ¬ (k : Int) < (m : Int) := by omega
      have TT : Hid (es.take k = es) := Lib.hid (List.take_of_length_le (by rw [EM.out]; omega))
      have KM : Hid (k = es.length) := Lib.hid (by rw [EM.out]; omega)
      rw [TT.out, KM.out] at OW
      go_wp2_with fail
      go_ret
      exact ⟨_, rfl, own_baseG B1.out.size OW.out, B1.out.trans (Below.mono OH.out B1.out.size)⟩
end Go.Proofs.YtniklmikdkjgiaaGreatDoor
namespace Go.Proofs.YtniklmikdkjgiaaGreatDoor
open Go.RowKit
def EdIs (w : World) (r : RV) : Prop := ∃ A c, r.edv = .slice A r.edits.length c ∧ Es w A r.edits
theorem EdIs.below {w w' : World} {r : RV} (h : EdIs w r) (hb : Below w.heap.size w w') : EdIs w' r := by
  obtain ⟨A, c, e, he⟩ := h; exact ⟨A, c, e, he.below hb⟩
end Go.Proofs.YtniklmikdkjgiaaGreatDoor
namespace Go.Proofs.YtniklmikdkjgiaaGreatDoor
open Go.RowKit
def dropE (t : Tx) : EV := ⟨5, t, [], [], 0, 0, [], [], [], .slice none 0 0, zRO⟩
theorem dropE_is (t : Tx) (w : World) : EvIs w (dropE t) := ⟨sl_nil w, ⟨sl_nil w, ⟨none, 0, rfl, Rd.nil_ _ _⟩⟩⟩
theorem drop_es {w : World} {g : Nat} {t : Tx} (h : w.heap[g]? = some (.cells (evL (dropE t)).toArray 93 (0, 0))) (ht : t.length ≤ 1000000) : Es w (some ⟨g, 0, none⟩) [dropE t] := by
  refine ⟨?_, ?_, ?_, ?_, by show 1 ≤ 100000; decide⟩
  · have e : evsL [dropE t] = evL (dropE t) := by simp [evsL]
    rw [e]
    exact Rd.of_row h (by simp)
  · intro e he; rw [List.mem_singleton.1 he]; exact dropE_is t w
  · intro e he; rw [List.mem_singleton.1 he]
    exact ⟨ht, Nat.zero_le _, Nat.zero_le _, Nat.zero_le _, Nat.zero_le _, Nat.zero_le _, (fun _ h => by cases h), ⟨Nat.zero_le _, Nat.zero_le _, (fun _ h => by cases h), Nat.zero_le _, (fun _ h => by cases h)⟩, Nat.zero_le _⟩
  · intro e he; rw [List.mem_singleton.1 he]
    exact ⟨fun A n c h => by injection h with _ h1 h2; omega, fun A n c h => by injection h with _ h1 h2; omega⟩
theorem mod_is {w : World} {k a n c o : Int} {t : Tx} {l : List EV} {v : Value} (h : ∃ A c, v = .slice A l.length c ∧ Es w A l) : RvIs w ⟨k, a, n, c, mainT, [], .slice none 0 0, l, v, t, false, o, [], zeroSl, [], [], [], .slice none 0 0, [], .slice none 0 0, zeroSl⟩ :=
  ⟨sl_nil w, h, zeroSl_is w, sl_nil w, sl_nil w, zeroSl_is w⟩
theorem mod_sz {k a n c o : Int} {t : Tx} {l : List EV} {v : Value} (ht : t.length ≤ 1000000) : RcSz (RV.c ⟨k, a, n, c, mainT, [], .slice none 0 0, l, v, t, false, o, [], zeroSl, [], [], [], .slice none 0 0, [], .slice none 0 0, zeroSl⟩) :=
  ⟨Nat.le_of_ble_eq_true rfl, ht, Nat.zero_le _, Nat.zero_le _, Nat.zero_le _, Nat.zero_le _, (fun _ h => by cases h), Nat.zero_le _, (fun _ h => by cases h), Nat.zero_le _, zeroSe_sz, zeroSe_sz⟩
end Go.Proofs.YtniklmikdkjgiaaGreatDoor
