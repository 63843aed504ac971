/- WALK: SnapshotForgets. -/
import Derived.Test.YtfhgidbmeifflaaOA
set_option linter.unusedSimpArgs false
set_option linter.unusedVariables false
namespace Go.Proofs.Ytfhgidbmeifflaa
open Go.RowKit Go.Maps Go.ChangeMaps Go.MapKept Go.WideShapes Go.WideMaps

theorem forgets_loop {S : Sh} {k : Nat} (h : Inv S k) {key other value : Tx} (hne : other ≠ key) (ho : (openF (forgetF S key).1).2.2 = 0) (j : Nat) (hj : j < (openF (forgetF S key).1).2.1) :
    readF (openF (writeF (openF (forgetF S key).1).1 [(key, value)] []).1).1 j other = readF S j other ∧ ((forgetF S key).2 = 0 → (readF (openF (writeF (openF (forgetF S key).1).1 [(key, value)] []).1).1 j key).2 ≠ 0) := by
  have e1 := openF_ok ho
  have hj1 : j ≤ (forgetF S key).1.opn := by rw [e1] at hj; have hj : j < (forgetF S key).1.opn + 1 := hj; omega
  have hj2 : j ≤ (writeF (openF (forgetF S key).1).1 [(key, value)] []).1.opn := by
    rw [(writeF_rd _ _ _).2, e1]; show j ≤ (forgetF S key).1.opn + 1; omega
  have key2 : ∀ t, readF (openF (writeF (openF (forgetF S key).1).1 [(key, value)] []).1).1 j t = readF (forgetF S key).1 j t := fun t => by
    rw [openF_read hj2, writeF_read ((h.forget key).open_), openF_read hj1]
  exact ⟨(key2 other).trans (forgetF_other S hne j), fun he => by rw [key2 key]; exact forget_reads h he j⟩
set_option maxHeartbeats 8000000 in
set_option maxRecDepth 100000 in
theorem forgets_any (A : Option Addr) (n c : Nat) (l : List OpV) (key other value : Tx) (w : World) (hn : n = l.length) (hl : n ≤ 9223372036854775807) (h : Rd w A (opsC l)) (hi : ∀ o ∈ l, OpIn o) (hk : key.length ≤ 9223372036854775807) (hko : other.length ≤ 9223372036854775807) (hkv : value.length ≤ 9223372036854775807) :
    Calls Try.prog 6 #[.slice A n c, .string (mkB key), .string (mkB other), .string (mkB value)] w fun e w' => e = .returned (.bool true) ∧ Below w.heap.size w w' := by
  have HI := Lib.hid hi
  have HN := Lib.hid hn
  have RA := Lib.hid h
  have HD := Lib.hid (head_any w)
  clear h hi hn
  have ml := mkB_len key
  have mlo := mkB_len other
  have mlv := mkB_len value
  have tk := mkB_tl key
  have tO := mkB_tl other
  have tv := mkB_tl value
  go_enter Try.func6, Try.ntmps6
  go_wp2_with fail
  refine HD.out.mono ?_
  rintro e w1 ⟨rfl, hb1⟩
  have BW1 := Lib.hid hb1
  have C := Lib.hid (short_any A n c l 40 w1 HN.out hl (by omega) (RA.out.below hb1))
  clear hb1 HD
  go_wp2_with fail
  refine C.out.mono ?_
  rintro e w2 ⟨rfl, hb2⟩
  have BW := Lib.hid (BW1.out.trans (hb2.mono BW1.out.size))
  clear hb2 C BW1
  cases hs : shortB l 40
  · go_wp2_with fail
    go_ret
    exact ⟨rfl, BW.out⟩
  obtain ⟨l40, lok⟩ := shortB_len hs
  have LOK := Lib.hid lok
  have LL := Lib.hid l40
  clear lok l40
  by_cases x1 : (200 : Int) < (key.length : Int)
  · go_wp2_with fail
    go_ret
    exact ⟨rfl, BW.out⟩
  by_cases x2 : (300 : Int) < (other.length : Int)
  · go_wp2_with fail
    go_ret
    exact ⟨rfl, BW.out⟩
  by_cases x3 : (300 : Int) < (value.length : Int)
  · go_wp2_with fail
    go_ret
    exact ⟨rfl, BW.out⟩
  cases hke : (key == other)
  rotate_left
  · go_wp2_with fail
    go_ret
    exact ⟨rfl, BW.out⟩
  have NE : Hid (other ≠ key) := Lib.hid (fun e => by rw [e] at hke; simp at hke)
  go_wp2_with fail
  refine (new_any w2).mono ?_
  rintro e w4 ⟨p, F0, rfl, hs4, hf4, hb4⟩
  have BW4 := Lib.hid (BW.out.trans (hb4.mono BW.out.size))
  have ST : Hid (∃ F, ShAt w4 p F (runF newS (l.take 0)) ∧ ∀ g, F g → w.heap.size ≤ g) := Lib.hid ⟨F0, hs4, fun g hg => Nat.le_trans BW.out.size (hf4 g hg)⟩
  clear hs4 hf4 hb4 BW
  go_wp2_with fail
  go_loopw [11] (fun s9 wr => ∃ k : Nat, k ≤ n ∧ s9 = .int .i64 (k : Int) ∧ Hid (∃ F, ShAt wr p F (runF newS (l.take k)) ∧ ∀ g, F g → w.heap.size ≤ g) ∧ Hid (Below w.heap.size w wr)) (fun i _ => n - (intOf i).toNat)
  case atStart => exact ⟨0, Nat.zero_le _, rfl, ST, BW4⟩
  case round =>
    clear ST BW4
    obtain ⟨k, hkn, rfl, SH, BW⟩ := hrel
    by_cases hlt : k < n
    · have hkl : k < l.length := by have := HN.out; omega
      have d1 : (k : Int) < (n : Int) := by omega
      have d2 : (0 : Int) ≤ (k : Int) := by omega
      obtain ⟨b, off, rfl, hb, c0, c1, c2, c3, c4, c5⟩ := ops_at (RA.out.below BW.out) hkl
      obtain ⟨F, sh, hF⟩ := SH.out
      have IN := run_inv' l k
      have LLo := LL.out
      have DO := do_any p F (runF newS (l.take k)) l[k] k wr IN (by omega) (LOK.out _ (List.getElem_mem hkl)) (HI.out _ (List.getElem_mem hkl)).1 (HI.out _ (List.getElem_mem hkl)).2 sh
      have RT := Lib.hid (runF_take newS l hkl)
      unfold opAgg at DO
      have FH := Lib.hid hF
      have DOH := Lib.hid DO
      clear DO hF sh IN
      generalize doF (runF newS (l.take k)) l[k] = R at *
      generalize l[k].kind = q0 at *
      generalize l[k].key = q1 at *
      generalize l[k].value = q2 at *
      generalize l[k].other = q3 at *
      generalize l[k].second = q4 at *
      generalize l[k].n = q5 at *
      go_wp2_with fail
      refine DOH.out.mono ?_
      rintro e w5 ⟨rfl, sp⟩
      obtain ⟨F5, s5, f5, b5⟩ := sp.base (B := w.heap.size) FH.out BW.out.size
      have SH5 : Hid (∃ F, ShAt w5 p F (runF newS (l.take (k + 1))) ∧ ∀ g, F g → w.heap.size ≤ g) := Lib.hid ⟨F5, by rw [RT.out]; exact s5, f5⟩
      have BW5 := Lib.hid (BW.out.trans b5)
      clear sp s5 f5 b5
      go_wp2_with fail
      exact ⟨⟨k + 1, by omega, by go_num, SH5, BW5⟩, by simp [intOf]; omega⟩
    · have d1 : ¬ (k : Int) < (n : Int) := by omega
      have hkl : l.length ≤ k := by have := HN.out; omega
      rw [List.take_of_length_le hkl] at SH
      have IN0 := run_inv Inv.new l
      have IN : Inv (runF newS l) 40 := IN0.mono (by have := LL.out; omega)
      have SI := IN.sh (by omega)
      generalize runF newS l = S at *
      obtain ⟨W1, hW1⟩ : ∃ W1, W1 = wr := ⟨_, rfl⟩
      subst hW1
      obtain ⟨F, sh, hF⟩ := SH.out
      have S1 := Lib.hid sh
      have F1 := Lib.hid hF
      obtain ⟨r, hr⟩ : ∃ r, r = W1.heap.size := ⟨_, rfl⟩
      have FL : Hid (∀ g, F g → g < r) := Lib.hid (by obtain ⟨bm, br, nk, hd, hh⟩ := sh; rw [hr]; exact hh.lt)
      have ST : Hid (R2 W1 r (.slice none 0 0) (.slice none 0 0) 0 (wasV S other 0) (errV S other 0)) := Lib.hid (R2.start _ _)
      have WR0 := Lib.hid (show Below r W1 W1 from Below.refl _ _)
      have HR := Lib.hid hr
      clear sh hF hr SH IN0
      go_wp2_with fail
      go_loopw [12, 13, 14] (fun s10 s11 s12 wx => ∃ k : Nat, k ≤ 42 ∧ s12 = .int .i64 (k : Int) ∧ Hid (R2 wx r s10 s11 k (wasV S other k) (errV S other k)) ∧ Hid (Below r W1 wx)) (fun _ _ i _ => 42 - (intOf i).toNat)
      case atStart => exact ⟨0, by omega, rfl, ST, WR0⟩
      case round =>
        clear ST WR0
        obtain ⟨i, hi42, rfl, RR, BX⟩ := hrel
        by_cases hlt2 : i < 42
        · have d3 : (i : Int) ≤ 41 := by omega
          have C0 := read_any p F S i (mkB other) wr SI (S1.out.below (by rw [← HR.out]; exact BX.out)) (by omega) (by rw [mkB_len]; omega)
          unfold ReadSaid at C0
          rw [mkB_list] at C0
          have C := Lib.hid C0
          have XS := Lib.hid (wasV_succ S other i)
          have YS := Lib.hid (errV_succ S other i)
          clear C0
          generalize readF S i other = Q at *
          generalize wasV S other i = X0 at *
          generalize errV S other i = Y0 at *
          go_wp2_with fail
          refine C.out.mono ?_
          rintro e w6 ⟨rfl, b6⟩
          have R6 := Lib.hid (RR.out.below b6)
          have rz : r ≤ wr.heap.size := Nat.le_trans (by rw [HR.out]; exact Nat.le_refl _) BX.out.size
          have BX6 := Lib.hid (BX.out.trans (b6.mono rz))
          have rz6 : r ≤ w6.heap.size := Nat.le_trans rz b6.size
          clear b6 RR BX C
          go_wp2_with (at_builtin; first
            | (refine wpList_app1v rfl (.tmp 82) (.tmp 84) 41 rfl Try.underlying41 info_str rfl r _ i X0 _ rfl rfl rfl rfl R6.out.oa rz6 (by omega) (by omega) ?_; intro g7 c7 w7 ho7 hg7 hl7 hb7)
            | (refine wpList_app1v rfl (.tmp 86) (.tmp 88) 42 rfl Try.underlying42 info_err rfl r _ i Y0 _ rfl rfl rfl rfl (R6.out.first ho7 hg7 (fun g hg => by cases hg; exact hl7)).1 (Nat.le_trans rz6 hg7.size) (by omega) (by omega) ?_; intro g8 c8 w8 ho8 hg8 hl8 hb8))
          have Z7 := R6.out.first ho7 hg7 (fun g hg => by cases hg; exact hl7)
          have Z8 := R2.second ho7 Z7.2 ho8 hg8 (fun g hg => by cases hg; exact hl8)
          rw [← XS.out, ← YS.out] at Z8
          exact ⟨⟨i + 1, by omega, by go_num, Lib.hid Z8, Lib.hid (BX6.out.trans (hb7.trans hb8))⟩, by simp [intOf]; omega⟩
        · have d3 : ¬ (i : Int) ≤ 41 := by omega
          obtain rfl : i = 42 := by omega
          have s2 := S1.out.below (w' := wr) (by rw [← HR.out]; exact BX.out)
          obtain ⟨g10, cp10, rfl, -, gl10⟩ := RR.out.oa.form (by omega)
          obtain ⟨g11, cp11, rfl, -, gl11⟩ := RR.out.ob.form (by omega)
          obtain ⟨P, hP⟩ : ∃ P : Nat → Prop, P = fun g => w.heap.size ≤ g ∧ (g < r ∨ wr.heap.size ≤ g) := ⟨_, rfl⟩
          have BWr := Lib.hid (BW.out.trans (BX.out.mono (by rw [HR.out]; exact BW.out.size)))
          have PF : Hid (∀ g, F g → P g) := Lib.hid (fun g hg => by rw [hP]; exact ⟨F1.out g hg, .inl (FL.out g hg)⟩)
          have PZ : Hid (∀ (u : World), wr.heap.size ≤ u.heap.size → ∀ g, u.heap.size ≤ g → P g) := Lib.hid (fun u hu g hg => by rw [hP]; exact ⟨Nat.le_trans BWr.out.size (Nat.le_trans hu hg), .inr (Nat.le_trans hu hg)⟩)
          have PB : Hid (∀ (a b : World), w.heap.size ≤ a.heap.size → But P a b → Below w.heap.size a b) := Lib.hid (fun a b ha hb => hb.below ha (fun g hg => by rw [hP] at hg; exact hg.1))
          have PR : Hid (∀ (a b : World), R2 a r (.slice (some ⟨g10, 0, none⟩) 42 cp10) (.slice (some ⟨g11, 0, none⟩) 42 cp11) 42 (wasV S other 42) (errV S other 42) → But P a b → R2 b r (.slice (some ⟨g10, 0, none⟩) 42 cp10) (.slice (some ⟨g11, 0, none⟩) 42 cp11) 42 (wasV S other 42) (errV S other 42)) := Lib.hid (fun a b h1 h2 =>
            h1.butz (z := wr.heap.size) (fun g hg => by cases hg; exact gl10) (fun g hg => by cases hg; exact gl11) h2 (fun g hg => by rw [hP] at hg; exact hg.2))
          clear hP gl10 gl11 BX
          have FA := Lib.hid (forget_any p F S (mkB key) wr SI s2 (by rw [mkB_len]; omega))
          rw [mkB_list] at FA
          have FC := forget_code S key
          have LP := Lib.hid (fun j h1 h2 => forgets_loop IN (value := value) NE.out (key := key) h1 j h2)
          have FF := Lib.hid (fun h1 h2 => forget_fresh (s := S) (t := key) h1 h2)
          have WF := Lib.hid (write_fresh (s := (openF (forgetF S key).1).1) (k := key) (v := value) (by omega) (by omega))
          have WO := Lib.hid (writeF_one (s := (openF (forgetF S key).1).1) (k := key) (v := value) (by omega) (by omega)).1
          have I1 := IN.forget key
          have I2 := I1.open_
          have I3 := I2.write [(key, value)] [] (by simp)
          have I4 := I3.open_
          obtain ⟨T1, hT1⟩ : ∃ T1, T1 = (forgetF S key).1 := ⟨_, rfl⟩
          obtain ⟨e1, he1⟩ : ∃ e1, e1 = (forgetF S key).2 := ⟨_, rfl⟩
          rw [← hT1] at I1 I2 I3 I4 LP FF WF WO FA
          rw [← he1] at FC LP FF FA
          have O2 : (openF T1).2.1 ≤ 1000 := by
            have := I1.opn
            unfold openF
            split
            · exact Nat.zero_le _
            · show T1.opn + 1 ≤ 1000; omega
          clear hT1 he1 s2 BW S1 F1 FL HR
          go_wp2_with fail
          refine FA.out.mono ?_
          rintro e w7 ⟨rfl, sp⟩
          obtain ⟨F7, s7, f7, b7⟩ := sp.cond PF.out (PZ.out wr (Nat.le_refl _))
          have zz7 : wr.heap.size ≤ w7.heap.size := b7.size
          have R7 := Lib.hid (PR.out _ _ RR.out b7)
          have BW7 := Lib.hid (BWr.out.trans (PB.out _ _ BWr.out.size b7))
          have OA := Lib.hid (open_any p F7 T1 w7 (I1.sh (by omega)) I1.nrd s7)
          have FH7 := Lib.hid f7
          clear sp s7 f7 b7 FA RR BWr PF
          generalize openF T1 = T2 at *
          rcases FC with rfl | rfl
          all_goals
            go_wp2_with fail
            refine OA.out.mono ?_
            rintro e w8 ⟨rfl, sp⟩
            obtain ⟨F8, s8, f8, b8⟩ := sp.cond FH7.out (PZ.out w7 zz7)
            have zz8 : wr.heap.size ≤ w8.heap.size := Nat.le_trans zz7 b8.size
            have R8 := Lib.hid (PR.out _ _ R7.out b8)
            have BW8 := Lib.hid (BW7.out.trans (PB.out _ _ BW7.out.size b8))
            have S8 := Lib.hid s8
            have FH8 := Lib.hid f8
            clear sp s8 f8 b8 OA R7 BW7 FH7
            by_cases hf : T2.2.2 = 0
            rotate_left
            · have f0 : ((T2.2.2 : Int) != 0) = true := by simp; omega
              go_wp2_with fail
              go_ret
              exact ⟨rfl, BW8.out⟩
          all_goals
            have f0 : ((T2.2.2 : Int) != 0) = false := by simp; omega
            have C0 := read_any p F8 T2.1 T2.2.1 (mkB key) w8 (I2.sh (by omega)) S8.out (by omega) (by rw [mkB_len]; omega)
            unfold ReadSaid at C0
            rw [mkB_list] at C0
            have C := Lib.hid C0
            have FF2 := Lib.hid (fun h => FF.out h hf)
            have LP2 := Lib.hid (fun j h2 => LP.out j hf h2)
            clear C0 FF LP
            generalize readF T2.1 T2.2.1 key = Q at *
            go_wp2_with fail
            refine C.out.mono ?_
            rintro e w9 ⟨rfl, b9⟩
            have S9 := Lib.hid (S8.out.below b9)
            have R9 := Lib.hid (R8.out.below b9)
            have BW9 := Lib.hid (BW8.out.trans (b9.mono BW8.out.size))
            have zz9 : wr.heap.size ≤ w9.heap.size := Nat.le_trans zz8 b9.size
            have lt9 : ∀ g, F8 g → g < w9.heap.size := fun g hg => by obtain ⟨bm, br, nk, hd, hh⟩ := S9.out; exact hh.lt g hg
            obtain ⟨u, hup, hu, hz, mu⟩ := put_one w9 key value (by omega)
            have W0 := write_any p F8 T2.1 [(key, value)] w9.heap.size [] none 0 0 u rfl (I2.sh (by omega)) (S9.out.below hu) (putAt_one mu (fun h => Nat.lt_irrefl _ (lt9 _ h)) (by omega) (by omega))
            rw [WO.out] at W0
            have W := Lib.hid W0
            have BU := Lib.hid (BW9.out.trans (hu.mono BW9.out.size))
            have RU := Lib.hid (R9.out.below hu)
            have zzu : wr.heap.size ≤ u.heap.size := Nat.le_trans zz9 hu.size
            have I3' := I3.sh (by omega)
            have I3n := I3.nrd
            have mk2 : ∀ u : World, (Instr.makeMap 47 none).run Try.prog u = .ok (.map (some u.heap.size)) (u.alloc (.map #[] 0)) := fun u => run_makeMap _ _
            clear b9 C S8 R8 BW8 lt9 hz mu hu W0 BW9 R9 S9 zz7 zz8 zz9 WO
          all_goals
            first
              | (have q11 : ((Q.2 : Int) != 11) = false := by
                  have h11 := FF2.out trivial
                  rw [h11]; rfl)
              | (cases q11 : ((Q.2 : Int) != 11))
          all_goals
            clear FF2
            generalize writeF T2.1 [(key, value)] [] = T3 at *
            go_wp2_with fail
            refine W.out.mono ?_
            rintro e w10 ⟨rfl, sp⟩
            obtain ⟨F10, s10, f10, b10⟩ := sp.cond FH8.out (PZ.out u zzu)
            have zz10 : wr.heap.size ≤ w10.heap.size := Nat.le_trans zzu b10.size
            have R10 := Lib.hid (PR.out _ _ RU.out b10)
            have BW10 := Lib.hid (BU.out.trans (PB.out _ _ BU.out.size b10))
            have OP := Lib.hid (open_any p F10 T3.1 w10 I3' I3n s10)
            have FH10 := Lib.hid f10
            have O4 : (openF T3.1).2.1 ≤ 1000 := by
              have := I3'.opn
              have := I3.opn
              unfold openF
              split
              · exact Nat.zero_le _
              · show T3.1.opn + 1 ≤ 1000; omega
            clear sp s10 f10 b10 W RU BU FH8 hup
            generalize openF T3.1 = T4 at *
            go_wp2_with fail
            refine OP.out.mono ?_
            rintro e w11 ⟨rfl, sp⟩
            obtain ⟨F11, s11, f11, b11⟩ := sp.cond FH10.out (PZ.out w10 zz10)
            have R11 := Lib.hid (PR.out _ _ R10.out b11)
            have BW11 := Lib.hid (BW10.out.trans (PB.out _ _ BW10.out.size b11))
            have S11 := Lib.hid s11
            have I4' := I4.sh (by omega)
            have C0 := read_any p F11 T4.1 T4.2.1 (mkB key) w11 I4' s11 (by omega) (by rw [mkB_len]; omega)
            unfold ReadSaid at C0
            rw [mkB_list] at C0
            have C := Lib.hid C0
            clear sp s11 f11 b11 OP R10 BW10 FH10 C0 zz10 zzu
            generalize readF T4.1 T4.2.1 key = Q2 at *
            by_cases hi4 : T4.2.2 = 0
            · obtain rfl : Q2 = (value, 0) := WF.out hi4
              clear WF
              go_wp2_with fail
              refine C.out.mono ?_
              rintro e w12 ⟨rfl, b12⟩
              have S12 := Lib.hid (S11.out.below b12)
              have R12 := Lib.hid (R11.out.below b12)
              have BW12 := Lib.hid (BW11.out.trans (b12.mono BW11.out.size))
              clear b12 C S11 R11 BW11
              go_wp2_with fail
              go_loopw [28] (fun s28 wx => ∃ j : Nat, j ≤ 42 ∧ s28 = .int .i64 (j : Int) ∧ Hid (Below w12.heap.size w12 wx)) (fun i _ => 42 - (intOf i).toNat)
              case atStart => exact ⟨0, by omega, rfl, Lib.hid (Below.refl _ _)⟩
              case round =>
                obtain ⟨j, hj42, rfl, BX⟩ := hrel
                by_cases hlt3 : j < 42
                · have d4 : (j : Int) < 42 := by omega
                  have d5 : (0 : Int) ≤ (j : Int) := by omega
                  by_cases hjf : j < T2.2.1
                  · have d6 : (j : Int) < (T2.2.1 : Int) := by omega
                    have L2 := LP2.out j hjf
                    have C0 := read_any p F11 T4.1 j (mkB other) wr I4' (S12.out.below BX.out) (by omega) (by rw [mkB_len]; omega)
                    unfold ReadSaid at C0
                    rw [mkB_list, L2.1] at C0
                    have C := Lib.hid C0
                    clear C0
                    go_wp2_with fail
                    refine C.out.mono ?_
                    rintro e w13 ⟨rfl, b13⟩
                    have BX13 := Lib.hid (BX.out.trans (b13.mono BX.out.size))
                    clear b13 C BX
                    have C0 := read_any p F11 T4.1 j (mkB key) w13 I4' (S12.out.below BX13.out) (by omega) (by rw [mkB_len]; omega)
                    unfold ReadSaid at C0
                    rw [mkB_list] at C0
                    have C := Lib.hid C0
                    have L3 := Lib.hid L2.2
                    clear C0 L2
                    generalize readF T4.1 j key = Q3 at *
                    go_wp2_with fail
                    refine C.out.mono ?_
                    rintro e w14 ⟨rfl, b14⟩
                    have R14 := (R12.out.below BX13.out).below b14
                    have x1 : w14.cell? ⟨g10, j, none⟩ = some (.string (mkB (readF S j other).1)) := by rw [R14.oa.cellAt _ (by omega)]; exact wasV_get S other hlt3
                    have x2 : w14.cell? ⟨g11, j, none⟩ = some (.int .i64 ((readF S j other).2 : Int)) := by rw [R14.ob.cellAt _ (by omega)]; exact errV_get S other hlt3
                    have BX14 := Lib.hid (BX13.out.trans (b14.mono BX13.out.size))
                    clear b14 R14 C
                    generalize readF S j other = Q4 at *
                    first
                      | (have q0 := L3.out trivial
                         have q1 : ((Q3.2 : Int) == 0) = false := by simp; exact q0)
                      | skip
                    go_wp2_with fail
                    exact ⟨⟨j + 1, by omega, by go_num, BX14⟩, by simp [intOf]; omega⟩
                  · have d6 : ¬ (j : Int) < (T2.2.1 : Int) := by omega
                    have BWZ := Lib.hid (BW12.out.trans (BX.out.mono BW12.out.size))
                    go_wp2_with fail
                    go_ret
                    exact ⟨rfl, BWZ.out⟩
                · have d4 : ¬ (j : Int) < 42 := by omega
                  have BWZ := Lib.hid (BW12.out.trans (BX.out.mono BW12.out.size))
                  go_wp2_with fail
                  go_ret
                  exact ⟨rfl, BWZ.out⟩
            · clear WF
              go_wp2_with fail
              refine C.out.mono ?_
              rintro e w12 ⟨rfl, b12⟩
              have S12 := Lib.hid (S11.out.below b12)
              have R12 := Lib.hid (R11.out.below b12)
              have BW12 := Lib.hid (BW11.out.trans (b12.mono BW11.out.size))
              clear b12 C S11 R11 BW11
              go_wp2_with fail
              go_loopw [28] (fun s28 wx => ∃ j : Nat, j ≤ 42 ∧ s28 = .int .i64 (j : Int) ∧ Hid (Below w12.heap.size w12 wx)) (fun i _ => 42 - (intOf i).toNat)
              case atStart => exact ⟨0, by omega, rfl, Lib.hid (Below.refl _ _)⟩
              case round =>
                obtain ⟨j, hj42, rfl, BX⟩ := hrel
                by_cases hlt3 : j < 42
                · have d4 : (j : Int) < 42 := by omega
                  have d5 : (0 : Int) ≤ (j : Int) := by omega
                  by_cases hjf : j < T2.2.1
                  · have d6 : (j : Int) < (T2.2.1 : Int) := by omega
                    have L2 := LP2.out j hjf
                    have C0 := read_any p F11 T4.1 j (mkB other) wr I4' (S12.out.below BX.out) (by omega) (by rw [mkB_len]; omega)
                    unfold ReadSaid at C0
                    rw [mkB_list, L2.1] at C0
                    have C := Lib.hid C0
                    clear C0
                    go_wp2_with fail
                    refine C.out.mono ?_
                    rintro e w13 ⟨rfl, b13⟩
                    have BX13 := Lib.hid (BX.out.trans (b13.mono BX.out.size))
                    clear b13 C BX
                    have C0 := read_any p F11 T4.1 j (mkB key) w13 I4' (S12.out.below BX13.out) (by omega) (by rw [mkB_len]; omega)
                    unfold ReadSaid at C0
                    rw [mkB_list] at C0
                    have C := Lib.hid C0
                    have L3 := Lib.hid L2.2
                    clear C0 L2
                    generalize readF T4.1 j key = Q3 at *
                    go_wp2_with fail
                    refine C.out.mono ?_
                    rintro e w14 ⟨rfl, b14⟩
                    have R14 := (R12.out.below BX13.out).below b14
                    have x1 : w14.cell? ⟨g10, j, none⟩ = some (.string (mkB (readF S j other).1)) := by rw [R14.oa.cellAt _ (by omega)]; exact wasV_get S other hlt3
                    have x2 : w14.cell? ⟨g11, j, none⟩ = some (.int .i64 ((readF S j other).2 : Int)) := by rw [R14.ob.cellAt _ (by omega)]; exact errV_get S other hlt3
                    have BX14 := Lib.hid (BX13.out.trans (b14.mono BX13.out.size))
                    clear b14 R14 C
                    generalize readF S j other = Q4 at *
                    first
                      | (have q0 := L3.out trivial
                         have q1 : ((Q3.2 : Int) == 0) = false := by simp; exact q0)
                      | skip
                    go_wp2_with fail
                    exact ⟨⟨j + 1, by omega, by go_num, BX14⟩, by simp [intOf]; omega⟩
                  · have d6 : ¬ (j : Int) < (T2.2.1 : Int) := by omega
                    have BWZ := Lib.hid (BW12.out.trans (BX.out.mono BW12.out.size))
                    go_wp2_with fail
                    go_ret
                    exact ⟨rfl, BWZ.out⟩
                · have d4 : ¬ (j : Int) < 42 := by omega
                  have BWZ := Lib.hid (BW12.out.trans (BX.out.mono BW12.out.size))
                  go_wp2_with fail
                  go_ret
                  exact ⟨rfl, BWZ.out⟩
end Go.Proofs.Ytfhgidbmeifflaa
