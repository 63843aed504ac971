/- WALK: SnapshotRefuses. -/
import Derived.Test.YtfhgidbmeifflaaNX
set_option linter.unusedSimpArgs false
set_option linter.unusedVariables false
namespace Go.Proofs.Ytfhgidbmeifflaa
open Go.RowKit Go.Maps Go.ChangeMaps Go.MapKept Go.WideShapes Go.WideMaps

theorem doF_err {s : Sh} {o : OpV} (h : (doF s o).2.2 ≠ 0) : (doF s o).1 = s := by
  unfold doF at h ⊢
  split
  · rename_i h0; rw [if_pos h0] at h; exact writeF_err h
  rename_i h0
  rw [if_neg h0] at h
  split
  · rename_i h1; rw [if_pos h1] at h; exact writeF_err h
  rename_i h1
  rw [if_neg h1] at h
  split
  · rename_i h2; rw [if_pos h2] at h
    dsimp only at h ⊢
    unfold openF at h ⊢
    split
    · rfl
    · rename_i h3; rw [if_neg h3] at h; exact absurd rfl h
  rename_i h2
  rw [if_neg h2] at h
  split
  · rename_i h3; rw [if_pos h3] at h
    dsimp only at h ⊢
    unfold closeF at h ⊢
    split
    · rfl
    · rename_i h4; rw [h4] at h; exact absurd rfl h
  rename_i h3
  rw [if_neg h3] at h
  split
  · rename_i h4; rw [if_pos h4] at h; exact absurd rfl h
  rename_i h4
  rw [if_neg h4] at h
  dsimp only at h ⊢
  unfold forgetF at h ⊢
  split
  · rename_i h5; rw [if_pos h5] at h; exact absurd rfl h
  · rfl
set_option maxHeartbeats 8000000 in
set_option maxRecDepth 100000 in
theorem refuses_any (A : Option Addr) (n c : Nat) (l : List OpV) (o : OpV) (key : Tx) (w : World) (hn : n = l.length) (hl : n ≤ 9223372036854775807) (h : Rd w A (opsC l)) (hi : ∀ o ∈ l, OpIn o) (ho : OpIn o) (hk : key.length ≤ 9223372036854775807) :
    Calls Try.prog 8 #[.slice A n c, opAgg o, .string (mkB key)] w fun e w' => e = .returned (.bool true) ∧ Below w.heap.size w w' := by
  obtain ⟨kd, ok, ov, oo, os, nn⟩ := o
  obtain ⟨O, hO⟩ : ∃ O : OpV, O = ⟨kd, ok, ov, oo, os, nn⟩ := ⟨_, rfl⟩
  have HO := Lib.hid hO
  rw [← hO] at ho
  have HOI := Lib.hid ho
  unfold opAgg
  dsimp only
  have HI := Lib.hid hi
  have HN := Lib.hid hn
  have H0 := Lib.hid (fun o => h.alloc o)
  have b0 : Below w.heap.size w (w.alloc (.cells #[.int .u8 (kd : Int), .string (mkB ok), .string (mkB ov), .string (mkB oo), .string (mkB os), .int .u8 (nn : Int)] 33)) := (Below.refl _ _).alloc (Nat.le_refl _) _
  have kb : (w.alloc (.cells #[.int .u8 (kd : Int), .string (mkB ok), .string (mkB ov), .string (mkB oo), .string (mkB os), .int .u8 (nn : Int)] 33)).heap[w.heap.size]? = some (.cells #[.int .u8 (kd : Int), .string (mkB ok), .string (mkB ov), .string (mkB oo), .string (mkB os), .int .u8 (nn : Int)] 33 (0, 0)) := heap_alloc_new w _
  obtain ⟨wa, hwa⟩ : ∃ wa, wa = w.alloc (.cells #[.int .u8 (kd : Int), .string (mkB ok), .string (mkB ov), .string (mkB oo), .string (mkB os), .int .u8 (nn : Int)] 33) := ⟨_, rfl⟩
  rw [← hwa] at b0 kb
  have RA := Lib.hid h
  have HD := Lib.hid (head_any wa)
  have hsz : wa.heap.size = w.heap.size + 1 := by rw [hwa]; simp
  rw [hwa] at HD
  clear h hi ho hO hn H0
  generalize hB : w.heap.size = B at *
  have ml := mkB_len key
  go_enter Try.func8, Try.ntmps8
  go_wp2_with fail
  refine HD.out.mono ?_
  rintro e w1 ⟨rfl, hb1⟩
  rw [← hwa] at hb1
  have BW := Lib.hid (b0.trans (hb1.mono (by omega)))
  have KB := Lib.hid ((hb1.block B (by omega)).trans kb)
  clear hb1 HD hwa kb b0 hsz
  have C := Lib.hid (short_any A n c l 40 w1 HN.out hl (by omega) (RA.out.below (by rw [hB]; exact BW.out)))
  go_wp2_with fail
  refine C.out.mono ?_
  rintro e w2 ⟨rfl, hb2⟩
  have bz1 := BW.out.size
  have BW2 := Lib.hid (BW.out.trans (hb2.mono (by omega)))
  have KB2 := Lib.hid ((hb2.block B (lt_of_block KB.out)).trans KB.out)
  clear hb2 C BW KB bz1
  cases hs : shortB l 40
  · go_wp2_with fail
    go_ret
    exact ⟨rfl, BW2.out⟩
  obtain ⟨l40, lok⟩ := shortB_len hs
  have LOK := Lib.hid lok
  have LL := Lib.hid l40
  clear lok l40
  have k0 : w2.cell? ⟨B, 0, none⟩ = some (.int .u8 (kd : Int)) := cell_of_row w2 B 0 _ _ _ KB2.out
  have k1 : w2.cell? ⟨B, 1, none⟩ = some (.string (mkB ok)) := cell_of_row w2 B 1 _ _ _ KB2.out
  have k2 : w2.cell? ⟨B, 2, none⟩ = some (.string (mkB ov)) := cell_of_row w2 B 2 _ _ _ KB2.out
  have k3 : w2.cell? ⟨B, 3, none⟩ = some (.string (mkB oo)) := cell_of_row w2 B 3 _ _ _ KB2.out
  have k4 : w2.cell? ⟨B, 4, none⟩ = some (.string (mkB os)) := cell_of_row w2 B 4 _ _ _ KB2.out
  have k5 : w2.cell? ⟨B, 5, none⟩ = some (.int .u8 (nn : Int)) := cell_of_row w2 B 5 _ _ _ KB2.out
  have ba : Below w2.heap.size w2 (w2.alloc (.cells #[.int .u8 (kd : Int), .string (mkB ok), .string (mkB ov), .string (mkB oo), .string (mkB os), .int .u8 (nn : Int)] 33)) := (Below.refl _ _).alloc (Nat.le_refl _) _
  have C := Lib.hid (short_any (some ⟨w2.heap.size, 0, none⟩) 1 1 [O] 1 _ rfl (by omega) (by omega) (Rd.of_row (heap_alloc_new w2 (.cells #[.int .u8 (kd : Int), .string (mkB ok), .string (mkB ov), .string (mkB oo), .string (mkB os), .int .u8 (nn : Int)] 33)) (by rw [HO.out]; exact List.prefix_refl _)))
  have bz2 := BW2.out.size
  have BW3 := Lib.hid (BW2.out.trans (ba.mono (by omega)))
  have KB3 := Lib.hid ((ba.block B (lt_of_block KB2.out)).trans KB2.out)
  clear ba KB2 BW2 bz2
  go_wp2_with fail
  refine C.out.mono ?_
  rintro e w3 ⟨rfl, hb3⟩
  have bz3 := BW3.out.size
  have BW := Lib.hid (BW3.out.trans (hb3.mono (by omega)))
  have KB := Lib.hid ((hb3.block B (lt_of_block KB3.out)).trans KB3.out)
  clear hb3 C BW3 KB3 bz3 k0 k1 k2 k3 k4 k5
  cases hs2 : shortB [O] 1
  · go_wp2_with fail
    go_ret
    exact ⟨rfl, BW.out⟩
  have OKO := Lib.hid ((shortB_len hs2).2 O (by simp))
  by_cases hk3 : (300 : Int) < (key.length : Int)
  · go_wp2_with fail
    go_ret
    exact ⟨rfl, BW.out⟩
  go_wp2_with fail
  refine (new_any w3).mono ?_
  rintro e w4 ⟨p, F0, rfl, hs4, hf4, hb4⟩
  have bz : B ≤ w3.heap.size := by have := BW.out.size; omega
  have zB := lt_of_block KB.out
  have BW4 := Lib.hid (BW.out.trans (hb4.mono bz))
  have KB4 := Lib.hid ((hb4.block B zB).trans KB.out)
  have ST : Hid (∃ F, ShAt w4 p F (runF newS (l.take 0)) ∧ ∀ g, F g → B + 1 ≤ g) := Lib.hid ⟨F0, hs4, fun g hg => by have := hf4 g hg; omega⟩
  clear hs4 hf4 hb4 bz zB BW KB
  go_wp2_with fail
  go_loopw [9] (fun s9 wr => ∃ k : Nat, k ≤ n ∧ s9 = .int .i64 (k : Int) ∧ Hid (∃ F, ShAt wr p F (runF newS (l.take k)) ∧ ∀ g, F g → B + 1 ≤ g) ∧ Hid (Below B w wr) ∧ Hid (wr.heap[B]? = some (.cells #[.int .u8 (kd : Int), .string (mkB ok), .string (mkB ov), .string (mkB oo), .string (mkB os), .int .u8 (nn : Int)] 33 (0, 0)))) (fun i _ => n - (intOf i).toNat)
  case atStart => exact ⟨0, Nat.zero_le _, rfl, ST, BW4, KB4⟩
  case round =>
    clear ST BW4 KB4
    obtain ⟨k, hkn, rfl, SH, BW, KB⟩ := hrel
    by_cases hlt : k < n
    · have hkl : k < l.length := by have := HN.out; omega
      have d1 : (k : Int) < (n : Int) := by omega
      have d2 : (0 : Int) ≤ (k : Int) := by omega
      obtain ⟨b, off, rfl, hb, c0, c1, c2, c3, c4, c5⟩ := ops_at (RA.out.below (by rw [hB]; exact BW.out)) hkl
      obtain ⟨F, sh, hF⟩ := SH.out
      have IN := run_inv' l k
      have LLo := LL.out
      have DO := do_any p F (runF newS (l.take k)) l[k] k wr IN (by omega) (LOK.out _ (List.getElem_mem hkl)) (HI.out _ (List.getElem_mem hkl)).1 (HI.out _ (List.getElem_mem hkl)).2 sh
      have RT := Lib.hid (runF_take newS l hkl)
      unfold opAgg at DO
      have FH := Lib.hid hF
      have DOH := Lib.hid DO
      clear DO hF sh IN
      generalize doF (runF newS (l.take k)) l[k] = R at *
      generalize l[k].kind = q0 at *
      generalize l[k].key = q1 at *
      generalize l[k].value = q2 at *
      generalize l[k].other = q3 at *
      generalize l[k].second = q4 at *
      generalize l[k].n = q5 at *
      go_wp2_with fail
      refine DOH.out.mono ?_
      rintro e w5 ⟨rfl, sp⟩
      have zB := lt_of_block KB.out
      obtain ⟨F5, s5, f5, b5⟩ := sp.base (B := B + 1) FH.out zB
      have SH5 : Hid (∃ F, ShAt w5 p F (runF newS (l.take (k + 1))) ∧ ∀ g, F g → B + 1 ≤ g) := Lib.hid ⟨F5, by rw [RT.out]; exact s5, f5⟩
      have BW5 := Lib.hid (BW.out.trans (b5.mono (by omega)))
      have KB5 := Lib.hid ((b5.block B (by omega)).trans KB.out)
      clear sp s5 f5 b5 zB
      go_wp2_with fail
      exact ⟨⟨k + 1, by omega, by go_num, SH5, BW5, KB5⟩, by simp [intOf]; omega⟩
    · have d1 : ¬ (k : Int) < (n : Int) := by omega
      have hkl : l.length ≤ k := by have := HN.out; omega
      rw [List.take_of_length_le hkl] at SH
      have IN0 := run_inv Inv.new l
      have IN : Inv (runF newS l) 40 := IN0.mono (by have := LL.out; omega)
      have SI := IN.sh (by omega)
      generalize runF newS l = S at *
      obtain ⟨W1, hW1⟩ : ∃ W1, W1 = wr := ⟨_, rfl⟩
      subst hW1
      obtain ⟨F, sh, hF⟩ := SH.out
      have S1 := Lib.hid sh
      have F1 := Lib.hid hF
      obtain ⟨r, hr⟩ : ∃ r, r = W1.heap.size := ⟨_, rfl⟩
      have FL : Hid (∀ g, F g → g < r) := Lib.hid (by obtain ⟨bm, br, nk, hd, hh⟩ := sh; rw [hr]; exact hh.lt)
      have ST : Hid (R2 W1 r (.slice none 0 0) (.slice none 0 0) 0 (wasV S key 0) (errV S key 0)) := Lib.hid (R2.start _ _)
      have WR0 := Lib.hid (show Below r W1 W1 from Below.refl _ _)
      have HR := Lib.hid hr
      clear sh hF hr SH IN0
      go_wp2_with fail
      go_loopw [10, 11, 12] (fun s10 s11 s12 wx => ∃ k : Nat, k ≤ 42 ∧ s12 = .int .i64 (k : Int) ∧ Hid (R2 wx r s10 s11 k (wasV S key k) (errV S key k)) ∧ Hid (Below r W1 wx)) (fun _ _ i _ => 42 - (intOf i).toNat)
      case atStart => exact ⟨0, by omega, rfl, ST, WR0⟩
      case round =>
        clear ST WR0
        obtain ⟨i, hi42, rfl, RR, BX⟩ := hrel
        by_cases hlt2 : i < 42
        · have d3 : (i : Int) ≤ 41 := by omega
          have C0 := read_any p F S i (mkB key) wr SI (S1.out.below (by rw [← HR.out]; exact BX.out)) (by omega) (by rw [mkB_len]; omega)
          unfold ReadSaid at C0
          rw [mkB_list] at C0
          have C := Lib.hid C0
          have XS := Lib.hid (wasV_succ S key i)
          have YS := Lib.hid (errV_succ S key i)
          clear C0
          generalize readF S i key = Q at *
          generalize wasV S key i = X0 at *
          generalize errV S key i = Y0 at *
          go_wp2_with fail
          refine C.out.mono ?_
          rintro e w6 ⟨rfl, b6⟩
          have R6 := Lib.hid (RR.out.below b6)
          have rz : r ≤ wr.heap.size := Nat.le_trans (by rw [HR.out]; exact Nat.le_refl _) BX.out.size
          have BX6 := Lib.hid (BX.out.trans (b6.mono rz))
          have rz6 : r ≤ w6.heap.size := Nat.le_trans rz b6.size
          clear b6 RR BX C
          go_wp2_with (at_builtin; first
            | (refine wpList_app1v rfl (.tmp 61) (.tmp 63) 41 rfl Try.underlying41 info_str rfl r _ i X0 _ rfl rfl rfl rfl R6.out.oa rz6 (by omega) (by omega) ?_; intro g7 c7 w7 ho7 hg7 hl7 hb7)
            | (refine wpList_app1v rfl (.tmp 65) (.tmp 67) 42 rfl Try.underlying42 info_err rfl r _ i Y0 _ rfl rfl rfl rfl (R6.out.first ho7 hg7 (fun g hg => by cases hg; exact hl7)).1 (Nat.le_trans rz6 hg7.size) (by omega) (by omega) ?_; intro g8 c8 w8 ho8 hg8 hl8 hb8))
          have Z7 := R6.out.first ho7 hg7 (fun g hg => by cases hg; exact hl7)
          have Z8 := R2.second ho7 Z7.2 ho8 hg8 (fun g hg => by cases hg; exact hl8)
          rw [← XS.out, ← YS.out] at Z8
          exact ⟨⟨i + 1, by omega, by go_num, Lib.hid Z8, Lib.hid (BX6.out.trans (hb7.trans hb8))⟩, by simp [intOf]; omega⟩
        · have d3 : ¬ (i : Int) ≤ 41 := by omega
          obtain rfl : i = 42 := by omega
          have Br : B < r := by rw [HR.out]; exact lt_of_block KB.out
          have s2 := S1.out.below (w' := wr) (by rw [← HR.out]; exact BX.out)
          have HLD := Lib.hid (held_any p F S wr SI s2)
          obtain ⟨g10, cp10, rfl, -, -⟩ := RR.out.oa.form (by omega)
          obtain ⟨g11, cp11, rfl, -, -⟩ := RR.out.ob.form (by omega)
          go_wp2_with fail
          refine HLD.out.mono ?_
          rintro e w6 ⟨n0, rfl, hh0, hn0, b6⟩
          have rz : r ≤ wr.heap.size := Nat.le_trans (by rw [HR.out]; exact Nat.le_refl _) BX.out.size
          have HH0 := Lib.hid hh0
          have b16 : Below r W1 w6 := BX.out.trans (b6.mono rz)
          have KB6 := Lib.hid ((b16.block B Br).trans KB.out)
          have k0 : w6.cell? ⟨B, 0, none⟩ = some (.int .u8 (kd : Int)) := cell_of_row w6 B 0 _ _ _ KB6.out
          have k1 : w6.cell? ⟨B, 1, none⟩ = some (.string (mkB ok)) := cell_of_row w6 B 1 _ _ _ KB6.out
          have k2 : w6.cell? ⟨B, 2, none⟩ = some (.string (mkB ov)) := cell_of_row w6 B 2 _ _ _ KB6.out
          have k3 : w6.cell? ⟨B, 3, none⟩ = some (.string (mkB oo)) := cell_of_row w6 B 3 _ _ _ KB6.out
          have k4 : w6.cell? ⟨B, 4, none⟩ = some (.string (mkB os)) := cell_of_row w6 B 4 _ _ _ KB6.out
          have k5 : w6.cell? ⟨B, 5, none⟩ = some (.int .u8 (nn : Int)) := cell_of_row w6 B 5 _ _ _ KB6.out
          have DO := do_any p F S O 40 w6 IN (by omega) OKO.out HOI.out.1 HOI.out.2 (s2.below b6)
          have ag : opAgg O = .agg #[.int .u8 (kd : Int), .string (mkB ok), .string (mkB ov), .string (mkB oo), .string (mkB os), .int .u8 (nn : Int)] := by rw [HO.out]; rfl
          rw [ag] at DO
          have R6 := Lib.hid (RR.out.below b6)
          have BW6 := Lib.hid (BW.out.trans (b16.mono (by omega)))
          have rz6 : r ≤ w6.heap.size := Nat.le_trans rz b6.size
          have ERR := Lib.hid (@doF_err S O)
          have DOH := Lib.hid DO
          clear s2 hh0 b6 b16 DO ag HLD RR BX KB BW
          generalize doF S O = R at *
          go_wp2_with fail
          refine DOH.out.mono ?_
          rintro e w7 ⟨rfl, F7, s7, f7, b7⟩
          have S7 := Lib.hid s7
          have R7 := Lib.hid (R6.out.but b7 (fun g hg => .inl (FL.out g hg)))
          have BW7 := Lib.hid (BW6.out.trans (b7.below (B := B) (by omega) (fun g hg => by have := F1.out g hg; omega)))
          clear s7 f7 b7 k0 k1 k2 k3 k4 k5 R6 BW6 KB6 DOH
          by_cases he : R.2.2 = 0
          · have he' : (R.2.2 : Int) = 0 := by omega
            go_wp2_with fail
            go_ret
            exact ⟨rfl, BW7.out⟩
          · have he' : ((R.2.2 : Int) == 0) = false := by simp; omega
            have SE := ERR.out he
            rw [SE] at S7
            clear SE ERR
            go_wp2_with fail
            go_loopw [18] (fun s18 wx => ∃ k : Nat, k ≤ 42 ∧ s18 = .int .i64 (k : Int) ∧ Hid (Below w7.heap.size w7 wx)) (fun i _ => 42 - (intOf i).toNat)
            case atStart => exact ⟨0, by omega, rfl, Lib.hid (Below.refl _ _)⟩
            case round =>
              obtain ⟨j, hj42, rfl, BX⟩ := hrel
              by_cases hlt3 : j < 42
              · have d4 : (j : Int) < 42 := by omega
                have d5 : (0 : Int) ≤ (j : Int) := by omega
                have C0 := read_any p F7 S j (mkB key) wr SI (S7.out.below BX.out) (by omega) (by rw [mkB_len]; omega)
                unfold ReadSaid at C0
                rw [mkB_list] at C0
                have C := Lib.hid C0
                clear C0
                go_wp2_with fail
                refine C.out.mono ?_
                rintro e w8 ⟨rfl, b8⟩
                have R8 := (R7.out.below BX.out).below b8
                have x1 : w8.cell? ⟨g10, j, none⟩ = some (.string (mkB (readF S j key).1)) := by rw [R8.oa.cellAt _ (by omega)]; exact wasV_get S key hlt3
                have x2 : w8.cell? ⟨g11, j, none⟩ = some (.int .i64 ((readF S j key).2 : Int)) := by rw [R8.ob.cellAt _ (by omega)]; exact errV_get S key hlt3
                have BX8 := Lib.hid (BX.out.trans (b8.mono BX.out.size))
                clear b8 R8 C
                generalize readF S j key = Q at *
                go_wp2_with fail
                exact ⟨⟨j + 1, by omega, by go_num, BX8⟩, by simp [intOf]; omega⟩
              · have d4 : ¬ (j : Int) < 42 := by omega
                have HLD := Lib.hid (held_any p F7 S wr SI (S7.out.below BX.out))
                have BW8 := Lib.hid (BW7.out.trans (BX.out.mono (by have := BW7.out.size; omega)))
                go_wp2_with fail
                refine HLD.out.mono ?_
                rintro e w9 ⟨n1, rfl, hh1, hn1, b9⟩
                obtain rfl : n1 = n0 := Sn.held_unique hh1 HH0.out
                have BW9 := Lib.hid (BW8.out.trans (b9.mono (by have := BW8.out.size; omega)))
                clear hh1 b9 HLD
                go_wp2_with fail
                go_ret
                exact ⟨by simp, BW9.out⟩
end Go.Proofs.Ytfhgidbmeifflaa
