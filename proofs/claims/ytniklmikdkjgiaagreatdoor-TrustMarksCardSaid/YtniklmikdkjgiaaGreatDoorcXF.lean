import Derived.Test.YtniklmikdkjgiaaGreatDoorcXE
import Derived.Test.YtniklmikdkjgiaaGreatDoorcYH
import Derived.ChangeKeysEq
set_option linter.all false
set_option maxHeartbeats 16000000
set_option maxRecDepth 100000
namespace Go.Proofs.YtniklmikdkjgiaaGreatDoor
open Go.RowKit
theorem refs_small {kind : Int} : ∀ {l : List Tx} {last : Tx} {seen : List Tx}, At.refsFrom kind last seen l = true → ∀ s ∈ l, s.length ≤ 24
  | [], _, _, _, s, hs => by cases hs
  | a :: l, last, seen, h, s, hs => by
    rw [At.refsFrom] at h
    simp only [Bool.and_eq_true] at h
    rcases List.mem_cons.1 hs with rfl | hs
    · exact nameB_len h.1.2
    · exact refs_small h.2 s hs
structure ObFit (o : At.Ob) : Prop where
  kind : At.kindB o.kind = true
  id : o.id.length ≤ 24
  tags : At.tagsB o.tags = true
  refs : o.refs.length ≤ 2000
  ref : ∀ s ∈ o.refs, s.length ≤ 24
  at_ : o.kind = 1 → 0 ≤ o.x ∧ 0 ≤ o.y ∧ o.x ≤ 9223372036854775807 ∧ o.y ≤ 9223372036854775807
theorem validO_fit {o : At.Ob} (h : At.validO o = true) : ObFit o := by
  unfold At.validO at h
  simp only [Bool.and_eq_true, decide_eq_true_eq] at h
  obtain ⟨⟨⟨⟨⟨⟨h1, h2⟩, h3⟩, h4⟩, h5⟩, h6⟩, h7⟩ := h
  refine ⟨h1, nameB_len h2, h3, h5, refs_small h6, fun hk => ?_⟩
  unfold At.formB at h7
  rw [if_pos hk] at h7
  simp only [Bool.and_eq_true, decide_eq_true_eq, At.onB] at h7
  omega
def limT (t : Tx) : Tx × Nat := if 20000 < t.length then ([], 2) else (t, 0)
def objBody (o : At.Ob) : Tx :=
  if o.kind = 1 then putF (putF (putF (wordF o.kind) o.id) (Dg.dec o.x.toNat)) (Dg.dec o.y.toNat) else putF (putF (wordF o.kind) o.id) ([40] ++ joinL o.refs [32] ++ [41])
def objTextF (o : At.Ob) : Tx × Nat :=
  if At.validO o then (if 0 < o.tags.length then (if (tagTextF o.tags).2 = 0 then limT (putF (objBody o) (tagTextF o.tags).1) else ([], (tagTextF o.tags).2)) else limT (objBody o)) else ([], 1)
theorem putF_ne {t s : Tx} (h : t ≠ []) : putF t s = t ++ [32] ++ s := if_neg h
theorem putF_len (t s : Tx) : (putF t s).length ≤ t.length + s.length + 1 := by
  unfold putF; split
  · omega
  · rw [List.length_append, List.length_append, List.length_singleton]; omega
theorem putF_nn {t s : Tx} (h : t ≠ []) : putF t s ≠ [] := by rw [putF_ne h]; simp
theorem wordF_nn {k : Int} (h : At.kindB k = true) : wordF k ≠ [] := by
  have := wordF_ne (k := k)
  rw [h] at this
  intro e; rw [e] at this; cases this
theorem wordF_le (k : Int) : (wordF k).length ≤ 5 := by
  unfold wordF
  repeat (split; decide)
  decide
theorem tagText_two {l : List (Tx × Tx)} (h : At.tagsB l = true) : (∃ t, tagTextF l = (t, 0) ∧ t.length ≤ 20000) ∨ tagTextF l = ([], 2) := by
  unfold tagTextF
  rw [if_pos h]
  split
  · exact .inr rfl
  · rename_i h2; exact .inl ⟨_, rfl, Nat.le_of_not_lt h2⟩
def OT (b : Nat) (u1 u : World) : Prop := Below b u1 u
def WS (b : Nat) (u1 : World) (t : Tx) (u : World) : Prop := WrIs b b t u ∧ OT b u1 u
theorem WS.call {b : Nat} {u1 u u' : World} {t : Tx} (h : WS b u1 t u) (k : Below u.heap.size u u') : WS b u1 t u' :=
  ⟨h.1.below k, Below.trans h.2 (k.mono (by obtain ⟨p, v, -, hb, -⟩ := h.1.parts; exact Nat.le_of_lt (lt_of_block hb)))⟩
theorem WS.put {b : Nat} {u1 u u' : World} {t t' : Tx} (h : WS b u1 t u) (i : WrIs b b t' u') (k : Below b u u') : WS b u1 t' u' := ⟨i, Below.trans h.2 k⟩
theorem objtext_any (o : RO) (w : World) (h : ObIs w o) (hs : ObSz o.c) (hr : o.c.refs.length ≤ 100000) (hcap : ∀ A n c, o.rv = .slice A n c → n ≤ c) (ht : Tab w) :
    Calls Tryz.prog 174 #[roA o] w (TxtE w (objTextF o.c)) := by
  obtain ⟨⟨A1, c1, v1, r1⟩, ⟨A2, c2, v2, r2⟩⟩ := id h
  have hc1 := hcap _ _ _ v1
  have RA : roA o = .agg #[.string (mkB o.c.id), .int .i64 o.c.kind, .int .i64 o.c.x, .int .i64 o.c.y, .slice A1 o.c.refs.length c1, .slice A2 o.c.tags.length c2] := by unfold roA; rw [v1, v2]
  have VA := Lib.hid (fun u (hu : Below w.heap.size w u) => valid_any o u (h.below hu) hs hr)
  rw [RA] at VA ⊢
  obtain ⟨W, hW⟩ : ∃ W, W = w.alloc (.cells #[.string (mkB o.c.id), .int .i64 o.c.kind, .int .i64 o.c.x, .int .i64 o.c.y, .slice A1 o.c.refs.length c1, .slice A2 o.c.tags.length c2] 91) := ⟨_, rfl⟩
  have HX : Hid (W.heap[w.heap.size]? = some (.cells #[.string (mkB o.c.id), .int .i64 o.c.kind, .int .i64 o.c.x, .int .i64 o.c.y, .slice A1 o.c.refs.length c1, .slice A2 o.c.tags.length c2] 91 (0, 0))) := Lib.hid (by rw [hW]; exact heap_alloc_new w _)
  have BW : Hid (Below w.heap.size w W) := Lib.hid (by rw [hW]; exact (Below.refl _ _).alloc (Nat.le_refl _) _)
  have WZ : W.heap.size = w.heap.size + 1 := by rw [hW]; simp
  have WD := Lib.hid (fun u => word_any o.c.kind u)
  have PM : Hid (objTextF o.c = if At.validO o.c then (if 0 < o.c.tags.length then (if (tagTextF o.c.tags).2 = 0 then limT (putF (objBody o.c) (tagTextF o.c.tags).1) else ([], (tagTextF o.c.tags).2)) else limT (objBody o.c)) else ([], 1)) := Lib.hid rfl
  have R1 := Lib.hid r1
  have R2 := Lib.hid r2
  have HT := Lib.hid ht
  have HS := Lib.hid hs
  have HC := Lib.hid hc1
  clear h hs hr hcap ht r1 r2 RA v1 v2 hc1
  go_enter Tryz.func174, Tryz.ntmps174
  go_upto_region 1 with fail
  rw [← hW]
  clear hW
  have kk : ∀ i u, (#[Value.string (mkB o.c.id), .int .i64 o.c.kind, .int .i64 o.c.x, .int .i64 o.c.y, .slice A1 o.c.refs.length c1, .slice A2 o.c.tags.length c2] : Array Value)[i]? = some u → W.cell? ⟨w.heap.size, i, none⟩ = some u := fun i u hu => by rw [Lib.cell_of_heap HX.out]; exact hu
  have z0 := kk 0 _ rfl
  have z1 := kk 1 _ rfl
  have z2 := kk 2 _ rfl
  have z3 := kk 3 _ rfl
  have z4 := kk 4 _ rfl
  have z5 := kk 5 _ rfl
  clear kk
  go_wp2_with fail
  refine (VA.out W BW.out).mono ?_
  rintro e u1 ⟨rfl, b1⟩
  have B1 := Lib.hid (BW.out.trans (b1.mono BW.out.size))
  have HX1 : Hid (u1.heap[w.heap.size]? = some (.cells #[.string (mkB o.c.id), .int .i64 o.c.kind, .int .i64 o.c.x, .int .i64 o.c.y, .slice A1 o.c.refs.length c1, .slice A2 o.c.tags.length c2] 91 (0, 0))) := Lib.hid ((b1.block _ (by omega)).trans HX.out)
  have sz1 : w.heap.size < u1.heap.size := by have := b1.size; omega
  clear b1 VA HX BW WZ z0 z1 z2 z3 z4 z5
  cases hV : At.validO o.c
  · have PE : Hid (objTextF o.c = ([], 1)) := Lib.hid (by rw [PM.out, hV]; rfl)
    go_wp2_with fail
    go_ret2
    exact ⟨by rw [PE.out]; rfl, B1.out⟩
  · have PE : Hid (objTextF o.c = (if 0 < o.c.tags.length then (if (tagTextF o.c.tags).2 = 0 then limT (putF (objBody o.c) (tagTextF o.c.tags).1) else ([], (tagTextF o.c.tags).2)) else limT (objBody o.c))) := Lib.hid (by rw [PM.out, hV]; rfl)
    have FT := Lib.hid (validO_fit hV)
    have WN := Lib.hid (wordF_nn FT.out.kind)
    obtain ⟨u2, hu2⟩ : ∃ u2, u2 = u1.alloc (.cells #[.pointer none, .slice none 0 0] 230) := ⟨_, rfl⟩
    obtain ⟨b, hb⟩ : ∃ b, u1.heap.size = b := ⟨_, rfl⟩
    have hwb : w.heap.size < b := by omega
    have IW : WrIs b b [] u2 := by rw [hu2, ← hb]; exact Lib.fresh_isBuilder _ _ _
    have OD : OT b u1 u2 := by rw [hu2, ← hb]; exact (Below.refl _ _).alloc (Nat.le_refl _) _
    have S : Hid (WS b u1 [] u2) := Lib.hid ⟨IW, OD⟩
    clear IW
    have kk : ∀ i v, (#[Value.string (mkB o.c.id), .int .i64 o.c.kind, .int .i64 o.c.x, .int .i64 o.c.y, .slice A1 o.c.refs.length c1, .slice A2 o.c.tags.length c2] : Array Value)[i]? = some v → ∀ u, OT b u1 u → u.cell? ⟨w.heap.size, i, none⟩ = some v := fun i v hv u hu => by
      rw [Lib.cell_of_heap ((Below.block hu w.heap.size hwb).trans HX1.out)]; exact hv
    have k0 := kk 0 _ rfl
    have k1 := kk 1 _ rfl
    have k2 := kk 2 _ rfl
    have k3 := kk 3 _ rfl
    have k4 := kk 4 _ rfl
    have k5 := kk 5 _ rfl
    have BA : Hid (∀ u, OT b u1 u → Below w.heap.size w u) := Lib.hid (fun u hu => B1.out.trans (Below.mono hu (Nat.le_of_lt hwb)))
    have PA := Lib.hid (fun t s u (hu : WrIs b b t u) (hl : t.length + s.length ≤ 1000000000) => wput_any b b t s u hu hl)
    have IT : Hid (∀ (k : Nat) u, k ≤ 9223372036854775807 → OT b u1 u → Calls Tryz.prog 113 #[.int .i64 (k : Int)] u fun e w' => e = .returned (.string (mkB (Dg.dec k))) ∧ Below u.heap.size u w') := Lib.hid (fun k u hk hu => itoa_any k u hk (HT.out.keep (BA.out u hu)))
    have TT : Hid (∀ u, OT b u1 u → Calls Tryz.prog 200 #[.slice A2 o.c.tags.length c2] u (TxtE u (tagTextF o.c.tags))) := Lib.hid (fun u hu => tagtext_any A2 c2 _ _ u rfl HS.out.tags HS.out.tag (R2.out.below (BA.out u hu)))
    have JL : Hid ((joinL o.c.refs [32]).length ≤ 60000) := Lib.hid (Nat.le_trans (join_len [32] 24 _ FT.out.ref) (Nat.le_trans (Nat.mul_le_mul_right _ FT.out.refs) (by decide)))
    have JA : Hid (∀ u, OT b u1 u → Calls Tryz.prog 177 #[.slice A1 o.c.refs.length c1, .string ⟨#[32]⟩] u fun e w' => e = .returned (.string (mkB (joinL o.c.refs [32]))) ∧ Below u.heap.size u w') := Lib.hid (fun u hu => joinT_any A1 _ c1 _ [32] u rfl (R1.out.below (BA.out u hu)) HC.out (by have := FT.out.refs; omega) (by have := JL.out; omega))
    have LA := Lib.hid (fun t u (hu : WrIs b b t u) => lenW_any b b t u hu)
    have SA := Lib.hid (fun t u (hu : WrIs b b t u) (h0 : t ≠ []) => stringW_any b b t u hu h0)
    have WL := Lib.hid (wordF_le o.c.kind)
    have DL : Hid (∀ n : Nat, n ≤ 9223372036854775807 → (Dg.dec n).length ≤ 20) := Lib.hid (fun n hn => dec_len 20 n (by omega) (by decide))
    obtain ⟨wk, hwk⟩ : ∃ wk, wordF o.c.kind = wk := ⟨_, rfl⟩
    have WK : Hid (wordF o.c.kind = wk) := Lib.hid hwk
    rw [hwk] at WD WN WL
    clear hwk
    clear PM kk
    go_upto_region 4 with fail
    rw [← hu2]
    try rw [hb]
    clear hu2 hb OD
    have OD : OT b u1 u2 := S.out.2
    go_wp2_with fail
    refine (WD.out _).mono ?_
    rintro e u3 ⟨rfl, d3⟩
    have S := Lib.hid (WS.call S.out d3)
    have OD : OT b u1 u3 := S.out.2
    clear d3
    go_wp2_with fail
    refine (PA.out ([]) (wk) _ S.out.1 (by have := WL.out; show 0 + _ ≤ _; omega)).mono ?_
    rintro e u4 ⟨rfl, i4, d4⟩
    have S := Lib.hid (WS.put S.out i4 d4)
    have OD : OT b u1 u4 := S.out.2
    clear i4 d4
    go_wp2_with fail
    refine (PA.out (wk) (o.c.id) _ S.out.1 (by have := WL.out; have := FT.out.id; omega)).mono ?_
    rintro e u5 ⟨rfl, i5, d5⟩
    have S := Lib.hid (WS.put S.out i5 d5)
    have OD : OT b u1 u5 := S.out.2
    clear i5 d5
    have WN2 := Lib.hid (putF_nn (s := o.c.id) WN.out)
    have WL2 : Hid ((putF wk o.c.id).length ≤ 40) := Lib.hid (Nat.le_trans (putF_len _ _) (by have := WL.out; have := FT.out.id; omega))
    by_cases hk : o.c.kind = 1
    · obtain ⟨hx0, hy0, hx1, hy1⟩ := FT.out.at_ hk
      have OB : Hid (objBody o.c = putF (putF (putF wk o.c.id) (Dg.dec o.c.x.toNat)) (Dg.dec o.c.y.toNat)) := Lib.hid (by unfold objBody; rw [if_pos hk, WK.out])
      generalize putF wk o.c.id = hd at *
      obtain ⟨X, hX⟩ : ∃ X : Nat, o.c.x = (X : Int) := ⟨o.c.x.toNat, by omega⟩
      obtain ⟨Y, hY⟩ : ∃ Y : Nat, o.c.y = (Y : Int) := ⟨o.c.y.toNat, by omega⟩
      rw [hX, hY] at OB
      rw [hX] at k2 hx1; rw [hY] at k3 hy1; rw [hk] at k1
      have xb : X ≤ 9223372036854775807 := by omega
      have yb : Y ≤ 9223372036854775807 := by omega
      rw [Int.toNat_natCast, Int.toNat_natCast] at OB
      have DX := Lib.hid (DL.out X xb)
      have DY := Lib.hid (DL.out Y yb)
      have IX := Lib.hid (fun u hu => IT.out X u xb hu)
      have IY := Lib.hid (fun u hu => IT.out Y u yb hu)
      generalize Dg.dec X = dx at *
      generalize Dg.dec Y = dy at *
      clear hx0 hy0 hx1 hy1 hX hY xb yb hk
      go_wp2_with fail
      refine (IX.out _ OD).mono ?_
      rintro e u6 ⟨rfl, d6⟩
      have S := Lib.hid (WS.call S.out d6)
      have OD : OT b u1 u6 := S.out.2
      clear d6
      go_wp2_with fail
      refine (PA.out (hd) (dx) _ S.out.1 (by have := WL2.out; have := DX.out; omega)).mono ?_
      rintro e u7 ⟨rfl, i7, d7⟩
      have S := Lib.hid (WS.put S.out i7 d7)
      have OD : OT b u1 u7 := S.out.2
      clear i7 d7
      have WN3 := Lib.hid (putF_nn (s := dx) WN2.out)
      have WL3 : Hid ((putF hd dx).length ≤ 80) := Lib.hid (Nat.le_trans (putF_len _ _) (by have := WL2.out; have := DX.out; omega))
      go_wp2_with fail
      refine (IY.out _ OD).mono ?_
      rintro e u8 ⟨rfl, d8⟩
      have S := Lib.hid (WS.call S.out d8)
      have OD : OT b u1 u8 := S.out.2
      clear d8
      go_wp2_with fail
      refine (PA.out (putF hd dx) (dy) _ S.out.1 (by have := WL3.out; have := DY.out; omega)).mono ?_
      rintro e u9 ⟨rfl, i9, d9⟩
      have S := Lib.hid (WS.put S.out i9 d9)
      have OD : OT b u1 u9 := S.out.2
      clear i9 d9
      have BN := Lib.hid (putF_nn (s := dy) WN3.out)
      have BL : Hid ((putF (putF hd dx) dy).length ≤ 100000) := Lib.hid (Nat.le_trans (putF_len _ _) (by have := WL3.out; have := DY.out; omega))
      rw [OB.out] at PE
      generalize putF (putF hd dx) dy = BO at *
      by_cases ht : 0 < o.c.tags.length
      · have d3 : (0 : Int) < (o.c.tags.length : Int) := by omega
        rcases tagText_two FT.out.tags with ⟨tt, he, hl⟩ | he
        · have PE : Hid (objTextF o.c = limT (putF BO tt)) := Lib.hid (by rw [PE.out, if_pos ht, he]; rfl)
          rw [he] at TT
          have HL := Lib.hid hl
          clear he ht hl
          go_wp2_with fail
          refine (TT.out _ OD).mono ?_
          rintro e u10 ⟨rfl, d10⟩
          have S := Lib.hid (WS.call S.out d10)
          have OD : OT b u1 u10 := S.out.2
          clear d10
          go_wp2_with fail
          refine (PA.out (BO) (tt) _ S.out.1 (by have := BL.out; have := HL.out; omega)).mono ?_
          rintro e u11 ⟨rfl, i11, d11⟩
          have S := Lib.hid (WS.put S.out i11 d11)
          have OD : OT b u1 u11 := S.out.2
          clear i11 d11
          go_wp2_with fail
          refine (LA.out (putF BO tt) _ S.out.1).mono ?_
          rintro e u12 ⟨rfl, rfl⟩
          have NN := Lib.hid (putF_nn (t := BO) (s := tt) BN.out)
          generalize putF BO tt = T at *
          by_cases h2 : 20000 < T.length
          · have d3 : (20000 : Int) < (T.length : Int) := by omega
            have PF : Hid (objTextF o.c = ([], 2)) := Lib.hid (by rw [PE.out]; exact if_pos h2)
            clear PE
            go_wp2_with fail
            go_ret2
            exact ⟨by rw [PF.out]; rfl, BA.out _ S.out.2⟩
          · have d3 : ¬ (20000 : Int) < (T.length : Int) := by omega
            have PF : Hid (objTextF o.c = (T, 0)) := Lib.hid (by rw [PE.out]; exact if_neg h2)
            clear PE
            go_wp2_with fail
            refine (SA.out T _ S.out.1 NN.out).mono ?_
            rintro e u13 ⟨rfl, d13⟩
            have S2 := Lib.hid (BA.out _ (show OT b u1 _ from Below.trans S.out.2 d13))
            clear d13
            go_wp2_with fail
            go_ret2
            exact ⟨by rw [PF.out]; rfl, S2.out⟩
        · have PE : Hid (objTextF o.c = ([], 2)) := Lib.hid (by rw [PE.out, if_pos ht, he]; rfl)
          rw [he] at TT
          have HL := Lib.hid ht
          clear he ht 
          go_wp2_with fail
          refine (TT.out _ OD).mono ?_
          rintro e u15 ⟨rfl, d15⟩
          have S := Lib.hid (WS.call S.out d15)
          have OD : OT b u1 u15 := S.out.2
          clear d15
          go_wp2_with fail
          go_ret2
          exact ⟨by rw [PE.out]; rfl, BA.out _ S.out.2⟩
      · have d3 : ¬ (0 : Int) < (o.c.tags.length : Int) := by omega
        have PE : Hid (objTextF o.c = limT BO) := Lib.hid (by rw [PE.out, if_neg ht])
        clear ht
        go_wp2_with fail
        refine (LA.out (BO) _ S.out.1).mono ?_
        rintro e u16 ⟨rfl, rfl⟩
        have NN := Lib.hid (BN.out)
        generalize BO = T at *
        by_cases h2 : 20000 < T.length
        · have d3 : (20000 : Int) < (T.length : Int) := by omega
          have PF : Hid (objTextF o.c = ([], 2)) := Lib.hid (by rw [PE.out]; exact if_pos h2)
          clear PE
          go_wp2_with fail
          go_ret2
          exact ⟨by rw [PF.out]; rfl, BA.out _ S.out.2⟩
        · have d3 : ¬ (20000 : Int) < (T.length : Int) := by omega
          have PF : Hid (objTextF o.c = (T, 0)) := Lib.hid (by rw [PE.out]; exact if_neg h2)
          clear PE
          go_wp2_with fail
          refine (SA.out T _ S.out.1 NN.out).mono ?_
          rintro e u17 ⟨rfl, d17⟩
          have S2 := Lib.hid (BA.out _ (show OT b u1 _ from Below.trans S.out.2 d17))
          clear d17
          go_wp2_with fail
          go_ret2
          exact ⟨by rw [PF.out]; rfl, S2.out⟩
    · have d1 : (o.c.kind == 1) = false := by simpa using hk
      have OB : Hid (objBody o.c = putF (putF wk o.c.id) ([40] ++ joinL o.c.refs [32] ++ [41])) := Lib.hid (by unfold objBody; rw [if_neg hk, WK.out])
      generalize putF wk o.c.id = hd at *
      generalize joinL o.c.refs [32] = J at *
      have a1 : ∀ W : World, (Op.stringOp .add ⟨#[40]⟩ (mkB J)).run Tryz.prog W = .ok (.string (mkB (40 :: J))) W := add_str [40] J (by have := JL.out; simp; omega)
      obtain ⟨G, hG⟩ : ∃ G, [40] ++ J ++ [41] = G := ⟨_, rfl⟩
      have a2 : ∀ W : World, (Op.stringOp .add (mkB (40 :: J)) ⟨#[41]⟩).run Tryz.prog W = .ok (.string (mkB G)) W := by rw [← hG]; exact add_str ([40] ++ J) [41] (by have := JL.out; simp; omega)
      have JB : Hid (G.length ≤ 60002) := Lib.hid (by rw [← hG]; have := JL.out; simp; omega)
      rw [hG] at OB
      clear hk hG
      go_wp2_with fail
      refine (JA.out _ OD).mono ?_
      rintro e u19 ⟨rfl, d19⟩
      have S := Lib.hid (WS.call S.out d19)
      have OD : OT b u1 u19 := S.out.2
      clear d19
      go_wp2_with fail
      refine (PA.out (hd) (G) _ S.out.1 (by have := WL2.out; have := JB.out; omega)).mono ?_
      rintro e u20 ⟨rfl, i20, d20⟩
      have S := Lib.hid (WS.put S.out i20 d20)
      have OD : OT b u1 u20 := S.out.2
      clear i20 d20
      have BN := Lib.hid (putF_nn (s := G) WN2.out)
      have BL : Hid ((putF hd G).length ≤ 100000) := Lib.hid (Nat.le_trans (putF_len _ _) (by have := WL2.out; have := JB.out; omega))
      rw [OB.out] at PE
      generalize putF hd G = BO at *
      by_cases ht : 0 < o.c.tags.length
      · have d3 : (0 : Int) < (o.c.tags.length : Int) := by omega
        rcases tagText_two FT.out.tags with ⟨tt, he, hl⟩ | he
        · have PE : Hid (objTextF o.c = limT (putF BO tt)) := Lib.hid (by rw [PE.out, if_pos ht, he]; rfl)
          rw [he] at TT
          have HL := Lib.hid hl
          clear he ht hl
          go_wp2_with fail
          refine (TT.out _ OD).mono ?_
          rintro e u21 ⟨rfl, d21⟩
          have S := Lib.hid (WS.call S.out d21)
          have OD : OT b u1 u21 := S.out.2
          clear d21
          go_wp2_with fail
          refine (PA.out (BO) (tt) _ S.out.1 (by have := BL.out; have := HL.out; omega)).mono ?_
          rintro e u22 ⟨rfl, i22, d22⟩
          have S := Lib.hid (WS.put S.out i22 d22)
          have OD : OT b u1 u22 := S.out.2
          clear i22 d22
          go_wp2_with fail
          refine (LA.out (putF BO tt) _ S.out.1).mono ?_
          rintro e u23 ⟨rfl, rfl⟩
          have NN := Lib.hid (putF_nn (t := BO) (s := tt) BN.out)
          generalize putF BO tt = T at *
          by_cases h2 : 20000 < T.length
          · have d3 : (20000 : Int) < (T.length : Int) := by omega
            have PF : Hid (objTextF o.c = ([], 2)) := Lib.hid (by rw [PE.out]; exact if_pos h2)
            clear PE
            go_wp2_with fail
            go_ret2
            exact ⟨by rw [PF.out]; rfl, BA.out _ S.out.2⟩
          · have d3 : ¬ (20000 : Int) < (T.length : Int) := by omega
            have PF : Hid (objTextF o.c = (T, 0)) := Lib.hid (by rw [PE.out]; exact if_neg h2)
            clear PE
            go_wp2_with fail
            refine (SA.out T _ S.out.1 NN.out).mono ?_
            rintro e u24 ⟨rfl, d24⟩
            have S2 := Lib.hid (BA.out _ (show OT b u1 _ from Below.trans S.out.2 d24))
            clear d24
            go_wp2_with fail
            go_ret2
            exact ⟨by rw [PF.out]; rfl, S2.out⟩
        · have PE : Hid (objTextF o.c = ([], 2)) := Lib.hid (by rw [PE.out, if_pos ht, he]; rfl)
          rw [he] at TT
          have HL := Lib.hid ht
          clear he ht 
          go_wp2_with fail
          refine (TT.out _ OD).mono ?_
          rintro e u26 ⟨rfl, d26⟩
          have S := Lib.hid (WS.call S.out d26)
          have OD : OT b u1 u26 := S.out.2
          clear d26
          go_wp2_with fail
          go_ret2
          exact ⟨by rw [PE.out]; rfl, BA.out _ S.out.2⟩
      · have d3 : ¬ (0 : Int) < (o.c.tags.length : Int) := by omega
        have PE : Hid (objTextF o.c = limT BO) := Lib.hid (by rw [PE.out, if_neg ht])
        clear ht
        go_wp2_with fail
        refine (LA.out (BO) _ S.out.1).mono ?_
        rintro e u27 ⟨rfl, rfl⟩
        have NN := Lib.hid (BN.out)
        generalize BO = T at *
        by_cases h2 : 20000 < T.length
        · have d3 : (20000 : Int) < (T.length : Int) := by omega
          have PF : Hid (objTextF o.c = ([], 2)) := Lib.hid (by rw [PE.out]; exact if_pos h2)
          clear PE
          go_wp2_with fail
          go_ret2
          exact ⟨by rw [PF.out]; rfl, BA.out _ S.out.2⟩
        · have d3 : ¬ (20000 : Int) < (T.length : Int) := by omega
          have PF : Hid (objTextF o.c = (T, 0)) := Lib.hid (by rw [PE.out]; exact if_neg h2)
          clear PE
          go_wp2_with fail
          refine (SA.out T _ S.out.1 NN.out).mono ?_
          rintro e u28 ⟨rfl, d28⟩
          have S2 := Lib.hid (BA.out _ (show OT b u1 _ from Below.trans S.out.2 d28))
          clear d28
          go_wp2_with fail
          go_ret2
          exact ⟨by rw [PF.out]; rfl, S2.out⟩
end Go.Proofs.YtniklmikdkjgiaaGreatDoor
namespace Go.Proofs.YtniklmikdkjgiaaGreatDoor
open Go.RowKit
theorem idxp_any (f : Nat) (p : Tx → Bool) (he : ∀ args w, (callFunc f args).run Tryz.prog w = .ok (.enter f args) w) (A : Option Addr) (n c : Nat) (l : List Tx) (w : World) (hn : n = l.length) (hl : n ≤ 1000000) (h : Rd w A (strsC l))
    (hc : ∀ s ∈ l, ∀ u, Calls Tryz.prog f #[.string (mkB s)] u fun e w' => e = .returned (.bool (p s)) ∧ Below u.heap.size u w') :
    Calls Tryz.prog 117 #[.slice A n c, .func (.func f) #[] #[]] w fun e w' => (∃ i : Int, e = .returned (.int .i64 i) ∧ decide (0 ≤ i) = l.any p) ∧ Below w.heap.size w w' := by
  have H := Lib.hid h
  have HN := Lib.hid hn
  have HC := Lib.hid hc
  obtain ⟨R, hR⟩ : ∃ R, l.any p = R := ⟨_, rfl⟩
  have ST : Hid (R = (l.drop 0).any p) := Lib.hid hR.symm
  have HB : Hid (Below w.heap.size w w) := Lib.hid (Below.refl _ _)
  rw [hR]
  clear hR h hn hc
  go_enter Tryz.func117, Tryz.ntmps117
  go_wp2_with fail
  go_loopw [8] (fun s8 wr => ∃ k : Nat, k ≤ n ∧ s8 = .int .i64 (k : Int) ∧ Hid (R = (l.drop k).any p) ∧ Hid (Below w.heap.size w wr)) (fun i _ => n - (intOf i).toNat)
  case atStart => exact ⟨0, Nat.zero_le _, rfl, ST, HB⟩
  case round =>
    clear ST HB
    obtain ⟨k, hkn, rfl, RK, BL⟩ := hrel
    by_cases hlt : k < n
    · have hkl : k < l.length := by rw [← HN.out]; exact hlt
      have d1 : (k : Int) < (n : Int) := by omega
      have d2 : (0 : Int) ≤ (k : Int) := by omega
      obtain ⟨b, off, rfl, hbz, c0⟩ := strs_at (H.out.below BL.out) hkl
      have RK2 : Hid (R = (p l[k] || (l.drop (k + 1)).any p)) := Lib.hid (by rw [RK.out, List.drop_eq_getElem_cons hkl, List.any_cons])
      have CS := Lib.hid (HC.out l[k] (List.getElem_mem hkl) wr)
      generalize l[k] = s at *
      go_wp2_with fail
      refine CS.out.mono ?_
      rintro e w1 ⟨rfl, b1⟩
      have BL2 := Lib.hid (BL.out.trans (b1.mono BL.out.size))
      clear b1 CS RK c0
      cases hp : p s
      · have RK3 : Hid (R = (l.drop (k + 1)).any p) := Lib.hid (by rw [RK2.out, hp]; rfl)
        clear RK2
        go_wp2_with fail
        exact ⟨⟨k + 1, by omega, by go_num, RK3, BL2⟩, by simp [intOf]; omega⟩
      · have RT : Hid (R = true) := Lib.hid (by rw [RK2.out, hp]; rfl)
        go_wp2_with fail
        go_ret
        exact ⟨⟨(k : Int), rfl, by rw [RT.out, decide_eq_true d2]⟩, BL2.out⟩
    · have d1 : ¬ (k : Int) < (n : Int) := by omega
      have RF : Hid (R = false) := Lib.hid (by rw [RK.out, List.drop_eq_nil_of_le (by rw [← HN.out]; omega)]; rfl)
      go_wp2_with fail
      go_ret
      exact ⟨⟨-1, rfl, by rw [RF.out]; rfl⟩, BL.out⟩
theorem hasp_any (f : Nat) (p : Tx → Bool) (he : ∀ args w, (callFunc f args).run Tryz.prog w = .ok (.enter f args) w) (A : Option Addr) (n c : Nat) (l : List Tx) (w : World) (hn : n = l.length) (hl : n ≤ 1000000) (h : Rd w A (strsC l))
    (hc : ∀ s ∈ l, ∀ u, Calls Tryz.prog f #[.string (mkB s)] u fun e w' => e = .returned (.bool (p s)) ∧ Below u.heap.size u w') :
    Calls Tryz.prog 74 #[.slice A n c, .func (.func f) #[] #[]] w fun e w' => e = .returned (.bool (l.any p)) ∧ Below w.heap.size w w' := by
  have IX := Lib.hid (idxp_any f p he A n c l w hn hl h hc)
  generalize l.any p = R at *
  clear hn h hc he
  go_enter Tryz.func74, Tryz.ntmps74
  go_wp2_with fail
  refine IX.out.mono ?_
  rintro e w1 ⟨⟨i, rfl, hi⟩, bt⟩
  have BT := Lib.hid bt
  clear bt IX
  cases R
  · go_wp2_with fail
    go_ret
    exact ⟨rfl, BT.out⟩
  · go_wp2_with fail
    go_ret
    exact ⟨rfl, BT.out⟩
theorem names1_any (s : Tx) (w : World) (hs : s.length ≤ 9223372036854775807) :
    Calls Tryz.prog 214 #[.string (mkB s)] w fun e w' => e = .returned (.bool (!At.nameB s)) ∧ Below w.heap.size w w' := by
  have NA := Lib.hid (name_any s w hs)
  clear hs
  go_enter Tryz.func214, Tryz.ntmps214
  go_wp2_with fail
  refine NA.out.mono ?_
  rintro e w1 ⟨rfl, b1⟩
  have B1 := Lib.hid b1
  clear b1 NA
  go_wp2_with fail
  go_ret
  exact ⟨rfl, B1.out⟩
theorem any_not {α : Type} (p : α → Bool) (l : List α) : (!l.any fun s => !p s) = l.all p := by
  induction l with
  | nil => rfl
  | cons a l ih => rw [List.any_cons, List.all_cons, ← ih]; cases p a <;> simp
theorem names_any (A : Option Addr) (n c : Nat) (l : List Tx) (w : World) (hn : n = l.length) (hl : n ≤ 1000000) (hs : ∀ s ∈ l, s.length ≤ 1000000) (h : Rd w A (strsC l)) :
    Calls Tryz.prog 195 #[.slice A n c] w fun e w' => e = .returned (.bool (l.all At.nameB)) ∧ Below w.heap.size w w' := by
  have HA := Lib.hid (hasp_any 214 (fun s => !At.nameB s) (enters_of Tryz.func214 (by kernel_rfl) rfl) A n c l w hn hl h (fun s hm u => names1_any s u (Nat.le_trans (hs s hm) (by decide))))
  rw [← any_not]
  generalize (l.any fun s => !At.nameB s) = R at *
  clear hn h hs
  go_enter Tryz.func195, Tryz.ntmps195
  go_wp2_with fail
  refine HA.out.mono ?_
  rintro e w1 ⟨rfl, b1⟩
  have B1 := Lib.hid b1
  clear b1 HA
  go_wp2_with fail
  go_ret
  exact ⟨rfl, B1.out⟩
end Go.Proofs.YtniklmikdkjgiaaGreatDoor
namespace Go.Proofs.YtniklmikdkjgiaaGreatDoor
open Go.RowKit
structure Ed where
  op : Int
  id : Tx
  other : Tx
  node : Tx
  x : Int
  y : Int
  key : Tx
  value : Tx
  refs : List Tx
  ob : At.Ob
structure EV where
  op : Int
  id : Tx
  other : Tx
  node : Tx
  x : Int
  y : Int
  key : Tx
  value : Tx
  refs : List Tx
  rv : Value
  o : RO
def EV.c (e : EV) : Ed := ⟨e.op, e.id, e.other, e.node, e.x, e.y, e.key, e.value, e.refs, e.o.c⟩
def evL (e : EV) : List Value := [.int .i64 e.op, .string (mkB e.id), .string (mkB e.other), .string (mkB e.node), .int .i64 e.x, .int .i64 e.y, .string (mkB e.key), .string (mkB e.value), e.rv, .string (mkB e.o.c.id), .int .i64 e.o.c.kind, .int .i64 e.o.c.x, .int .i64 e.o.c.y, e.o.rv, e.o.tv]
def evA (e : EV) : Value := .agg (evL e).toArray
def evsL (l : List EV) : List Value := l.flatMap evL
theorem evsL_len (l : List EV) : (evsL l).length = l.length * 15 := flat_len evL 15 (fun _ => rfl) l
structure EvIs (w : World) (e : EV) : Prop where
  rs : SlIs w e.rv e.refs.length (strsC e.refs)
  ob : ObIs w e.o
theorem EvIs.below {w w' : World} {e : EV} (h : EvIs w e) (hb : Below w.heap.size w w') : EvIs w' e := ⟨h.rs.below hb, h.ob.below hb⟩
structure EdSz (e : Ed) : Prop where
  id : e.id.length ≤ 1000000
  other : e.other.length ≤ 1000000
  node : e.node.length ≤ 1000000
  key : e.key.length ≤ 1000000
  value : e.value.length ≤ 1000000
  refs : e.refs.length ≤ 1000000
  ref : ∀ s ∈ e.refs, s.length ≤ 1000000
  ob : ObSz e.ob
  obr : e.ob.refs.length ≤ 100000
def sameE (a b : Ed) : Bool := ((decide (a.refs = b.refs) && At.sameO a.ob b.ob) && decide (a.op = b.op)) && (decide (a.id = b.id) && decide (a.other = b.other) && decide (a.node = b.node) && decide (a.key = b.key)) && decide (a.value = b.value) && (decide (a.x = b.x) && decide (a.y = b.y))
theorem tx_beq (a b : Tx) : ((mkB a).toList == (mkB b).toList) = decide (a = b) := by rw [mkB_tl, mkB_tl]; by_cases h : a = b <;> simp [h]
theorem eq_str (d : Nat) (a b : ByteArray) (w : World) : (Op.equalIn (d + 1) 9 (.string a) (.string b)).run Tryz.prog w = .ok (a == b) w := by
  simp [Op.equalIn, run_underlying Tryz.underlying9]
theorem eq4 (a b c d a' b' c' d' : ByteArray) (w : World) : (binOp .eql 243 (.agg #[.string a, .string b, .string c, .string d]) (.agg #[.string a', .string b', .string c', .string d'])).run Tryz.prog w = .ok (.bool ((a == a') && (b == b') && (c == c') && (d == d'))) w := by
  obtain ⟨i, hi, -⟩ := info_parts info_strG
  have h := run_equalIn_array (P := Tryz.prog) (w := w) 9999 (n := 4) (i := i) #[.string a, .string b, .string c, .string d] #[.string a', .string b', .string c', .string d'] Tryz.underlying243 hi
  have hc : Tryz.prog.cellsOf 9 = 1 := by kernel_rfl
  have pp : ∀ (xs : Array Value) (o : Nat) (v : Value) (u : World), xs[o]? = some v → (part 9 xs o).run Tryz.prog u = .ok v u := fun xs o v u hx => run_part_plain u (by kernel_rfl) hx
  have p0 := fun u => pp #[.string a, .string b, .string c, .string d] 0 _ u rfl
  have p1 := fun u => pp #[.string a, .string b, .string c, .string d] 1 _ u rfl
  have p2 := fun u => pp #[.string a, .string b, .string c, .string d] 2 _ u rfl
  have p3 := fun u => pp #[.string a, .string b, .string c, .string d] 3 _ u rfl
  have r0 := fun u => pp #[.string a', .string b', .string c', .string d'] 0 _ u rfl
  have r1 := fun u => pp #[.string a', .string b', .string c', .string d'] 1 _ u rfl
  have r2 := fun u => pp #[.string a', .string b', .string c', .string d'] 2 _ u rfl
  have r3 := fun u => pp #[.string a', .string b', .string c', .string d'] 3 _ u rfl
  simp only [binOp]
  simp [Op.equal, Op.maxDepth, h, hc, Op.eqItems, List.range_succ, p0, p1, p2, p3, r0, r1, r2, r3, Result.andThen, show (9999 : Nat) = 9998 + 1 from rfl, eq_str]
  cases (a == a') <;> cases (b == b') <;> cases (c == c') <;> cases (d == d') <;> rfl
theorem beq_mkB (a b : Tx) : (mkB a == mkB b) = decide (a = b) := by
  show ByteArray.beq _ _ = _
  unfold ByteArray.beq mkB
  by_cases h : a = b
  · subst h; simp
  · simp [h]
theorem eq4x (a b c d a' b' c' d' : Tx) (w : World) : (binOp .eql 243 (.agg #[.string (mkB a), .string (mkB b), .string (mkB c), .string (mkB d)]) (.agg #[.string (mkB a'), .string (mkB b'), .string (mkB c'), .string (mkB d')])).run Tryz.prog w = .ok (.bool (decide (a = a') && decide (b = b') && decide (c = c') && decide (d = d'))) w := by
  rw [eq4, beq_mkB, beq_mkB, beq_mkB, beq_mkB]
theorem esame_any (a b : EV) (w : World) (h : EvIs w a) (k : EvIs w b) (ha : EdSz a.c) (hb : EdSz b.c) :
    Calls Tryz.prog 197 #[evA a, evA b] w fun e w' => e = .returned (.bool (sameE a.c b.c)) ∧ Below w.heap.size w w' := by
  obtain ⟨⟨A1, c1, v1, r1⟩, ho1⟩ := h
  obtain ⟨⟨A2, c2, v2, r2⟩, ho2⟩ := k
  obtain ⟨⟨A3, c3, v3, -⟩, ⟨A4, c4, v4, -⟩⟩ := id ho1
  obtain ⟨⟨A5, c5, v5, -⟩, ⟨A6, c6, v6, -⟩⟩ := id ho2
  have SO : Hid (sameE a.c b.c = (((decide (a.refs = b.refs) && At.sameO a.o.c b.o.c) && decide (a.op = b.op)) && (decide (a.id = b.id) && decide (a.other = b.other) && decide (a.node = b.node) && decide (a.key = b.key)) && decide (a.value = b.value) && (decide (a.x = b.x) && decide (a.y = b.y)))) := Lib.hid rfl
  have ER : Hid (∀ u, Below w.heap.size w u → Calls Tryz.prog 97 #[.slice A1 a.refs.length c1, .slice A2 b.refs.length c2] u fun e w' => e = .returned (.bool (decide (a.refs = b.refs))) ∧ Below u.heap.size u w') := Lib.hid (fun u hu => eqs_any A1 A2 c1 c2 a.refs b.refs _ _ u rfl rfl ha.refs hb.refs (r1.below hu) (r2.below hu))
  have EO : Hid (∀ u, Below w.heap.size w u → Calls Tryz.prog 219 #[roA a.o, roA b.o] u fun e w' => e = .returned (.bool (At.sameO a.o.c b.o.c)) ∧ Below u.heap.size u w') := Lib.hid (fun u hu => same_any a.o b.o u (ho1.below hu) (ho2.below hu) ha.ob hb.ob)
  have q4 := fun u => eq4x a.id a.other a.node a.key b.id b.other b.node b.key u
  have q5 := tx_beq a.value b.value
  unfold evA evL roA at *
  rw [v1, v2, v3, v4, v5, v6] at *
  clear r1 r2 ho1 ho2 v1 v2 v3 v4 v5 v6 ha hb
  generalize sameE a.c b.c = R at *
  generalize At.sameO a.o.c b.o.c = so at *
  generalize decide (a.refs = b.refs) = dr at *
  generalize a.refs.length = n1 at *
  generalize b.refs.length = n2 at *
  generalize a.o.c.refs.length = n3 at *
  generalize a.o.c.tags.length = n4 at *
  generalize b.o.c.refs.length = n5 at *
  generalize b.o.c.tags.length = n6 at *
  obtain ⟨a1, a2, a3, a4, a5, a6, a7, a8, a9, ra, oa⟩ := a
  obtain ⟨b1, b2, b3, b4, b5, b6, b7, b8, b9, rb, ob⟩ := b
  dsimp only at *
  generalize oa.c.id = oi at *
  generalize oa.c.kind = ok at *
  generalize oa.c.x = ox at *
  generalize oa.c.y = oy at *
  generalize ob.c.id = pi at *
  generalize ob.c.kind = pk at *
  generalize ob.c.x = px at *
  generalize ob.c.y = py at *
  obtain ⟨W, hW⟩ : ∃ W, W = (w.alloc (.cells #[.int .i64 a1, .string (mkB a2), .string (mkB a3), .string (mkB a4), .int .i64 a5, .int .i64 a6, .string (mkB a7), .string (mkB a8), .slice A1 n1 c1, .string (mkB oi), .int .i64 ok, .int .i64 ox, .int .i64 oy, .slice A3 n3 c3, .slice A4 n4 c4] 93)).alloc (.cells #[.int .i64 b1, .string (mkB b2), .string (mkB b3), .string (mkB b4), .int .i64 b5, .int .i64 b6, .string (mkB b7), .string (mkB b8), .slice A2 n2 c2, .string (mkB pi), .int .i64 pk, .int .i64 px, .int .i64 py, .slice A5 n5 c5, .slice A6 n6 c6] 93) := ⟨_, rfl⟩
  have HX : Hid (W.heap[w.heap.size]? = some (.cells #[.int .i64 a1, .string (mkB a2), .string (mkB a3), .string (mkB a4), .int .i64 a5, .int .i64 a6, .string (mkB a7), .string (mkB a8), .slice A1 n1 c1, .string (mkB oi), .int .i64 ok, .int .i64 ox, .int .i64 oy, .slice A3 n3 c3, .slice A4 n4 c4] 93 (0, 0))) := Lib.hid (by rw [hW]; exact (alloc_old _ _ (by simp)).trans (heap_alloc_new w _))
  have HY : Hid (W.heap[w.heap.size + 1]? = some (.cells #[.int .i64 b1, .string (mkB b2), .string (mkB b3), .string (mkB b4), .int .i64 b5, .int .i64 b6, .string (mkB b7), .string (mkB b8), .slice A2 n2 c2, .string (mkB pi), .int .i64 pk, .int .i64 px, .int .i64 py, .slice A5 n5 c5, .slice A6 n6 c6] 93 (0, 0))) := Lib.hid (by rw [hW]; exact alloc_new' _ _ _ (by simp))
  have HZ : W.heap.size = w.heap.size + 2 := by rw [hW]; simp
  have BH : Hid (Below w.heap.size w W) := Lib.hid (by rw [hW]; exact ((Below.refl _ _).alloc (Nat.le_refl _) _).alloc (by simp) _)
  have OW : OldB W W := Below.refl _ _
  have kx : ∀ (i : Nat) v, (#[.int .i64 a1, .string (mkB a2), .string (mkB a3), .string (mkB a4), .int .i64 a5, .int .i64 a6, .string (mkB a7), .string (mkB a8), .slice A1 n1 c1, .string (mkB oi), .int .i64 ok, .int .i64 ox, .int .i64 oy, .slice A3 n3 c3, .slice A4 n4 c4] : Array Value)[i]? = some v → ∀ u, OldB W u → u.cell? ⟨w.heap.size, i, none⟩ = some v := fun i v hv u hu => by
    rw [Lib.cell_of_heap ((hu.block w.heap.size (by omega)).trans HX.out)]; exact hv
  have ky : ∀ (i : Nat) v, (#[.int .i64 b1, .string (mkB b2), .string (mkB b3), .string (mkB b4), .int .i64 b5, .int .i64 b6, .string (mkB b7), .string (mkB b8), .slice A2 n2 c2, .string (mkB pi), .int .i64 pk, .int .i64 px, .int .i64 py, .slice A5 n5 c5, .slice A6 n6 c6] : Array Value)[i]? = some v → ∀ u, OldB W u → u.cell? ⟨w.heap.size + 1, i, none⟩ = some v := fun i v hv u hu => by
    rw [Lib.cell_of_heap ((hu.block (w.heap.size + 1) (by omega)).trans HY.out)]; exact hv
  have x0 := kx 0 _ rfl
  have x1 := kx 1 _ rfl
  have x2 := kx 2 _ rfl
  have x3 := kx 3 _ rfl
  have x4 := kx 4 _ rfl
  have x5 := kx 5 _ rfl
  have x6 := kx 6 _ rfl
  have x7 := kx 7 _ rfl
  have x8 := kx 8 _ rfl
  have x9 := kx 9 _ rfl
  have x10 := kx 10 _ rfl
  have x11 := kx 11 _ rfl
  have x12 := kx 12 _ rfl
  have x13 := kx 13 _ rfl
  have x14 := kx 14 _ rfl
  have y0 := ky 0 _ rfl
  have y1 := ky 1 _ rfl
  have y2 := ky 2 _ rfl
  have y3 := ky 3 _ rfl
  have y4 := ky 4 _ rfl
  have y5 := ky 5 _ rfl
  have y6 := ky 6 _ rfl
  have y7 := ky 7 _ rfl
  have y8 := ky 8 _ rfl
  have y9 := ky 9 _ rfl
  have y10 := ky 10 _ rfl
  have y11 := ky 11 _ rfl
  have y12 := ky 12 _ rfl
  have y13 := ky 13 _ rfl
  have y14 := ky 14 _ rfl
  clear kx ky
  go_enter Tryz.func197, Tryz.ntmps197
  go_upto_region 1 with fail
  rw [← hW]
  clear hW
  go_wp2_with fail
  refine (ER.out W BH.out).mono ?_
  rintro e w1 ⟨rfl, b1'⟩
  have O1 : OldB W w1 := b1'
  have B1 := Lib.hid (BH.out.trans (b1'.mono BH.out.size))
  clear b1' OW
  cases dr
  · have RF : Hid (R = false) := Lib.hid (by rw [SO.out]; rfl)
    clear SO
    go_wp2_with fail
    go_ret
    exact ⟨by rw [RF.out]; rfl, B1.out⟩
  · have SO2 : Hid (R = ((so && decide (a1 = b1)) && (decide (a2 = b2) && decide (a3 = b3) && decide (a4 = b4) && decide (a7 = b7)) && decide (a8 = b8) && (decide (a5 = b5) && decide (a6 = b6)))) := Lib.hid (by rw [SO.out, Bool.true_and])
    clear SO
    go_wp2_with fail
    refine (EO.out w1 B1.out).mono ?_
    rintro e w2 ⟨rfl, b2'⟩
    have O2 : OldB W w2 := O1.then b2'
    have B2 := Lib.hid (B1.out.trans (b2'.mono B1.out.size))
    clear b2' O1 B1
    cases so
    · have RF : Hid (R = false) := Lib.hid (by rw [SO2.out]; rfl)
      clear SO2
      go_wp2_with fail
      go_ret
      exact ⟨by rw [RF.out]; rfl, B2.out⟩
    · by_cases h1 : a1 = b1
      · have e1 : (a1 == b1) = true := by rw [h1]; simp
        have S3 : Hid (R = ((decide (a2 = b2) && decide (a3 = b3) && decide (a4 = b4) && decide (a7 = b7)) && decide (a8 = b8) && (decide (a5 = b5) && decide (a6 = b6)))) := Lib.hid (by rw [SO2.out, decide_eq_true h1]; simp only [Bool.true_and])
        clear SO2 h1
        generalize (decide (a2 = b2) && decide (a3 = b3) && decide (a4 = b4) && decide (a7 = b7)) = four at *
        cases four
        · have RF : Hid (R = false) := Lib.hid (by rw [S3.out]; rfl)
          clear S3
          go_wp2_with fail
          go_ret
          exact ⟨by rw [RF.out]; rfl, B2.out⟩
        · by_cases h8 : a8 = b8
          · have e8 : decide (a8 = b8) = true := decide_eq_true h8
            have S4 : Hid (R = (decide (a5 = b5) && decide (a6 = b6))) := Lib.hid (by rw [S3.out, e8]; rfl)
            clear S3 h8
            by_cases h5 : a5 = b5
            · have e5 : (a5 == b5) = true := by rw [h5]; simp
              have S5 : Hid (R = decide (a6 = b6)) := Lib.hid (by rw [S4.out, decide_eq_true h5, Bool.true_and])
              clear S4 h5
              by_cases h6 : a6 = b6
              · have e6 : (a6 == b6) = true := by rw [h6]; simp
                have RF : Hid (R = true) := Lib.hid (by rw [S5.out, decide_eq_true h6])
                clear S5 h6
                go_wp2_with fail
                go_ret
                exact ⟨by rw [RF.out]; rfl, B2.out⟩
              · have e6 : (a6 == b6) = false := by simpa using h6
                have RF : Hid (R = false) := Lib.hid (by rw [S5.out, decide_eq_false h6])
                clear S5 h6
                go_wp2_with fail
                go_ret
                exact ⟨by rw [RF.out]; rfl, B2.out⟩
            · have e5 : (a5 == b5) = false := by simpa using h5
              have RF : Hid (R = false) := Lib.hid (by rw [S4.out, decide_eq_false h5]; rfl)
              clear S4 h5
              go_wp2_with fail
              go_ret
              exact ⟨by rw [RF.out]; rfl, B2.out⟩
          · have e8 : decide (a8 = b8) = false := decide_eq_false h8
            have RF : Hid (R = false) := Lib.hid (by rw [S3.out, e8]; rfl)
            clear S3 h8
            go_wp2_with fail
            go_ret
            exact ⟨by rw [RF.out]; rfl, B2.out⟩
      · have e1 : (a1 == b1) = false := by simpa using h1
        have RF : Hid (R = false) := Lib.hid (by rw [SO2.out, decide_eq_false h1]; rfl)
        clear SO2 h1
        go_wp2_with fail
        go_ret
        exact ⟨by rw [RF.out]; rfl, B2.out⟩
end Go.Proofs.YtniklmikdkjgiaaGreatDoor
namespace Go.Proofs.YtniklmikdkjgiaaGreatDoor
open Go.RowKit
def zOb : At.Ob := ⟨[], 0, 0, 0, [], []⟩
def zRO : RO := ⟨zOb, .slice none 0 0, .slice none 0 0⟩
def bareV (e : EV) : EV :=
  if e.op = 1 then ⟨e.op, [], [], [], 0, 0, [], [], [], .slice none 0 0, e.o⟩
  else if e.op = 2 then ⟨e.op, e.id, [], [], e.x, e.y, [], [], [], .slice none 0 0, zRO⟩
  else if e.op = 3 then ⟨e.op, e.id, [], [], 0, 0, e.key, e.value, [], .slice none 0 0, zRO⟩
  else if e.op = 4 then ⟨e.op, e.id, [], [], 0, 0, [], [], e.refs, e.rv, zRO⟩
  else if e.op = 5 then ⟨e.op, e.id, [], [], 0, 0, [], [], [], .slice none 0 0, zRO⟩
  else if e.op = 6 then ⟨e.op, e.id, e.other, e.node, 0, 0, [], [], [], .slice none 0 0, zRO⟩
  else ⟨e.op, e.id, e.other, [], 0, 0, [], [], [], .slice none 0 0, zRO⟩
def okE (e : Ed) : Bool :=
  if e.op = 1 then At.validO e.ob
  else if e.op = 2 then At.nameB e.id && decide (0 ≤ min e.x e.y) && decide (max e.x e.y < 1048576)
  else if e.op = 3 then At.nameB e.id && At.nameB e.key && decide (e.value.length ≤ 200)
  else if e.op = 4 then At.nameB e.id && decide (0 < e.refs.length) && decide (e.refs.length ≤ 2000) && e.refs.all At.nameB
  else if e.op = 5 then At.nameB e.id
  else if e.op = 6 then At.nameB e.id && (At.nameB e.node && At.nameB e.other)
  else if e.op = 7 then At.nameB e.id && At.nameB e.other
  else false
theorem zIs (w : World) : ObIs w zRO := ⟨⟨none, 0, rfl, Rd.nil_ _ _⟩, ⟨none, 0, rfl, Rd.nil_ _ _⟩⟩
theorem zSl (w : World) : SlIs w (.slice none 0 0) ([] : List Tx).length (strsC []) := ⟨none, 0, rfl, Rd.nil_ _ _⟩
theorem bare_is {w : World} {e : EV} (h : EvIs w e) : EvIs w (bareV e) := by
  unfold bareV
  repeat' split
  · exact ⟨zSl w, h.ob⟩
  · exact ⟨zSl w, zIs w⟩
  · exact ⟨zSl w, zIs w⟩
  · exact ⟨h.rs, zIs w⟩
  all_goals exact ⟨zSl w, zIs w⟩
theorem zSz : ObSz zOb := ⟨by decide, by decide, (by intro s h; cases h), by decide, (by intro s h; cases h)⟩
theorem bare_sz {e : EV} (h : EdSz e.c) : EdSz (bareV e).c := by
  have n : ∀ s ∈ ([] : List Tx), s.length ≤ 1000000 := by intro s h; cases h
  have z : ([] : Tx).length ≤ 1000000 := by decide
  have zr : zOb.refs.length ≤ 100000 := by decide
  have z0 : ([] : List Tx).length ≤ 1000000 := by decide
  unfold bareV
  repeat' split
  · exact ⟨z, z, z, z, z, z0, n, h.ob, h.obr⟩
  · exact ⟨h.id, z, z, z, z, z0, n, zSz, zr⟩
  · exact ⟨h.id, z, z, h.key, h.value, z0, n, zSz, zr⟩
  · exact ⟨h.id, z, z, z, z, h.refs, h.ref, zSz, zr⟩
  · exact ⟨h.id, z, z, z, z, z0, n, zSz, zr⟩
  · exact ⟨h.id, h.other, h.node, z, z, z0, n, zSz, zr⟩
  · exact ⟨h.id, h.other, z, z, z, z0, n, zSz, zr⟩
theorem names1L (s : Tx) (u : World) (hs : s.length ≤ 1000000) :
    Calls Tryz.prog 195 #[.slice (some ⟨u.heap.size, 0, none⟩) 1 1] (u.alloc (.cells #[.string (mkB s)] 9)) fun e w' => e = .returned (.bool (At.nameB s)) ∧ Below (u.alloc (.cells #[.string (mkB s)] 9)).heap.size (u.alloc (.cells #[.string (mkB s)] 9)) w' := by
  have := names_any (some ⟨u.heap.size, 0, none⟩) 1 1 [s] (u.alloc (.cells #[.string (mkB s)] 9)) rfl (by decide) (by intro t ht; rw [List.mem_singleton.1 ht]; exact hs) (Rd.of_row (heap_alloc_new u _) (List.prefix_refl _))
  simpa using this
theorem names2L (s t : Tx) (u : World) (hs : s.length ≤ 1000000) (ht : t.length ≤ 1000000) :
    Calls Tryz.prog 195 #[.slice (some ⟨u.heap.size, 0, none⟩) 2 2] (u.alloc (.cells #[.string (mkB s), .string (mkB t)] 9)) fun e w' => e = .returned (.bool (At.nameB s && At.nameB t)) ∧ Below (u.alloc (.cells #[.string (mkB s), .string (mkB t)] 9)).heap.size (u.alloc (.cells #[.string (mkB s), .string (mkB t)] 9)) w' := by
  have := names_any (some ⟨u.heap.size, 0, none⟩) 2 2 [s, t] (u.alloc (.cells #[.string (mkB s), .string (mkB t)] 9)) rfl (by decide) (by intro y hy; simp at hy; rcases hy with rfl | rfl; exact hs; exact ht) (Rd.of_row (heap_alloc_new u _) (List.prefix_refl _))
  simpa using this
def XB (bt : Nat) (W u : World) : Prop := But (fun b => b = bt) W u
theorem XB.drew {bt : Nat} {W u : World} (h : XB bt W u) : XB bt W u.drew := But.drew h
theorem XB.call {bt : Nat} {W u u' : World} (h : XB bt W u) (k : Below u.heap.size u u') : XB bt W u' := But.trans h (But.of_below k)
theorem XB.set {bt : Nat} {W u : World} (h : XB bt W u) (i : Nat) (v : Value) : XB bt W (u.setCell ⟨bt, i, none⟩ v) := But.set (p := ⟨bt, i, none⟩) h rfl v
theorem XB.keep {bt : Nat} {W u u' : World} {o : Obj} (_ : XB bt W u) (e : u.heap[bt]? = some o) (k : Below u.heap.size u u') : u'.heap[bt]? = some o := (k.block bt (Array.getElem?_eq_some_iff.1 e).1).trans e
theorem XB.same {bt : Nat} {W u : World} {o : Obj} (_ : XB bt W u) (e : u.heap[bt]? = some o) : u.heap[bt]? = some o := e
end Go.Proofs.YtniklmikdkjgiaaGreatDoor
