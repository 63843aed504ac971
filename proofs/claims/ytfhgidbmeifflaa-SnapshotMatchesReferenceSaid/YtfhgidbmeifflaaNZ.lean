/- WALK: SnapshotIsolated. -/
import Derived.Test.YtfhgidbmeifflaaNX
set_option linter.unusedSimpArgs false
set_option linter.unusedVariables false
namespace Go.Proofs.Ytfhgidbmeifflaa
open Go.RowKit Go.Maps Go.ChangeMaps Go.MapKept Go.WideShapes Go.WideMaps

theorem times_some {s : Sh} {k : Nat} (h : Inv s k) : TimesOf s (timesOf s) := by
  have : TimesOf s (s.clk :: (List.range (s.opn + 1)).filterMap s.rd) := ⟨by simp, fun c hc => by
    rcases List.mem_cons.1 hc with e | e
    · exact .inl e
    · obtain ⟨i, -, hi⟩ := List.mem_filterMap.1 e
      exact .inr ⟨i, hi⟩, fun i c hi => by
    refine List.mem_cons_of_mem _ (List.mem_filterMap.2 ⟨i, ?_, hi⟩)
    have := (h.rdc i c hi).2
    simp; omega⟩
  exact (times_eq this).2
theorem readF_some {s : Sh} {r c : Nat} (h : s.rd r = some c) (t : Tx) : readF s r t = Sn.rdv (Sn.cur (s.keys t) c) := by unfold readF; rw [h]
/-- what an operation leaves of a reader -/
theorem iso_step {s : Sh} {k : Nat} (h : Inv s k) (o : OpV) {r c : Nat} (hr : s.rd r = some c) (key : Tx) (h3 : ¬ (o.kind % 6 = 3 ∧ o.n = r)) (h5 : ¬ (o.kind % 6 = 5 ∧ o.key = key)) :
    (doF s o).1.rd r = some c ∧ readF (doF s o).1 r key = readF s r key := by
  have hc := h.rdc r c hr
  have hwr : ∀ (ps : List (Tx × Tx)) (d : List Tx), (writeF s ps d).1.rd r = some c ∧ readF (writeF s ps d).1 r key = readF s r key := fun ps d => by
    by_cases he : (writeF s ps d).2.2 = 0
    · obtain ⟨h1, h2, h3⟩ := writeF_ok he
      rw [h3]
      refine ⟨hr, ?_⟩
      rw [readF_some (s := { s with ver := s.ver + 1, clk := s.clk + 1, keys := putK (s.clk + 1) (dropK (s.clk + 1) s.keys d) ps (ps.map (·.1)), lim := s.lim + ps.length }) hr, readF_some hr]
      show Sn.rdv (Sn.cur (putK _ _ _ _ key) c) = _
      rcases write_key s ps d h1 key with e | ⟨v, e1, e⟩
      · rw [e]
      · rw [e, Sn.cur_snoc_new (by omega)]
    · rw [writeF_err he]; exact ⟨hr, rfl⟩
  unfold doF
  split
  · exact hwr _ _
  split
  · exact hwr _ _
  split
  · show (openF s).1.rd r = some c ∧ readF (openF s).1 r key = readF s r key
    unfold openF
    split
    · exact ⟨hr, rfl⟩
    · have e : setN s.rd (s.opn + 1) (some s.clk) r = some c := by unfold setN; rw [if_neg (by omega)]; exact hr
      exact ⟨e, by rw [readF_some (s := { s with opn := s.opn + 1, rd := setN s.rd (s.opn + 1) (some s.clk), nrd := s.nrd + 1 }) e, readF_some hr]⟩
  split
  · rename_i q3
    show (closeF s o.n).1.rd r = some c ∧ readF (closeF s o.n).1 r key = readF s r key
    unfold closeF
    split
    · exact ⟨hr, rfl⟩
    · have e : setN s.rd o.n none r = some c := by unfold setN; rw [if_neg (fun e => h3 ⟨q3, e.symm⟩)]; exact hr
      exact ⟨e, by rw [readF_some (s := { s with rd := setN s.rd o.n none, nrd := s.nrd - 1 }) e, readF_some hr]⟩
  split
  · show (collectF s (timesOf s)).rd r = some c ∧ readF (collectF s (timesOf s)) r key = readF s r key
    refine ⟨hr, ?_⟩
    rw [readF_some (s := collectF s (timesOf s)) hr, readF_some hr]
    show Sn.rdv (Sn.cur (Sn.colls (s.keys key) (timesOf s)) c) = _
    rw [Sn.cur_colls (h.ord key) ((times_some h).all r c hr)]
  · rename_i q0 q1 q2 q3 q4
    show (forgetF s o.key).1.rd r = some c ∧ readF (forgetF s o.key).1 r key = readF s r key
    unfold forgetF
    split
    · refine ⟨hr, ?_⟩
      rw [readF_some (s := { s with clk := s.clk + 1, keys := setK s.keys o.key ((s.keys o.key).map Sn.fgt ++ [⟨s.clk + 1, [], true, false⟩]) }) hr, readF_some hr]
      show Sn.rdv (Sn.cur (setK s.keys o.key _ key) c) = _
      rw [setK_ne _ _ (fun e => h5 ⟨by omega, e.symm⟩)]
    · exact ⟨hr, rfl⟩
theorem openF_err {s : Sh} (h : (openF s).2.2 ≠ 0) : (openF s).2.2 = 21 := by
  unfold openF at h ⊢
  split
  · rfl
  · rename_i h1; rw [if_neg h1] at h; exact absurd rfl h
theorem openF_ok {s : Sh} (h : (openF s).2.2 = 0) : openF s = ({ s with opn := s.opn + 1, rd := setN s.rd (s.opn + 1) (some s.clk), nrd := s.nrd + 1 }, s.opn + 1, 0) := by
  unfold openF at h ⊢
  split
  · rename_i h1; rw [if_pos h1] at h; cases h
  · rfl
theorem openF_rd {s : Sh} (h : (openF s).2.2 = 0) : (openF s).1.rd (openF s).2.1 = some s.clk := by
  rw [openF_ok h]; show setN s.rd (s.opn + 1) (some s.clk) (s.opn + 1) = _; unfold setN; rw [if_pos rfl]
set_option maxHeartbeats 8000000 in
set_option maxRecDepth 100000 in
theorem isolated_any (A : Option Addr) (n c : Nat) (l : List OpV) (A2 : Option Addr) (n2 c2 : Nat) (l2 : List OpV) (key : Tx) (w : World) (hn : n = l.length) (hl : n ≤ 9223372036854775807) (h : Rd w A (opsC l)) (hi : ∀ o ∈ l, OpIn o)
    (hn2 : n2 = l2.length) (hl2 : n2 ≤ 9223372036854775807) (h2 : Rd w A2 (opsC l2)) (hi2 : ∀ o ∈ l2, OpIn o) (hk : key.length ≤ 9223372036854775807) :
    Calls Try.prog 4 #[.slice A n c, .slice A2 n2 c2, .string (mkB key)] w fun e w' => e = .returned (.bool true) ∧ Below w.heap.size w w' := by
  have HI := Lib.hid hi
  have HN := Lib.hid hn
  have HI2 := Lib.hid hi2
  have HN2 := Lib.hid hn2
  have RA := Lib.hid h
  have RA2 := Lib.hid h2
  have HD := Lib.hid (head_any w)
  clear h hi hn h2 hi2 hn2
  have ml := mkB_len key
  go_enter Try.func4, Try.ntmps4
  go_wp2_with fail
  refine HD.out.mono ?_
  rintro e w1 ⟨rfl, hb1⟩
  have BW1 := Lib.hid hb1
  have C := Lib.hid (short_any A n c l 40 w1 HN.out hl (by omega) (RA.out.below hb1))
  clear hb1 HD
  go_wp2_with fail
  refine C.out.mono ?_
  rintro e w2 ⟨rfl, hb2⟩
  have BW2 := Lib.hid (BW1.out.trans (hb2.mono BW1.out.size))
  clear hb2 C BW1
  cases hs : shortB l 40
  · go_wp2_with fail
    go_ret
    exact ⟨rfl, BW2.out⟩
  obtain ⟨l40, lok⟩ := shortB_len hs
  have LOK := Lib.hid lok
  have LL := Lib.hid l40
  clear lok l40
  have C := Lib.hid (short_any A2 n2 c2 l2 40 w2 HN2.out hl2 (by omega) (RA2.out.below BW2.out))
  go_wp2_with fail
  refine C.out.mono ?_
  rintro e w3 ⟨rfl, hb3⟩
  have BW := Lib.hid (BW2.out.trans (hb3.mono BW2.out.size))
  clear hb3 C BW2
  cases hs2 : shortB l2 40
  · go_wp2_with fail
    go_ret
    exact ⟨rfl, BW.out⟩
  obtain ⟨m40, mok⟩ := shortB_len hs2
  have MOK := Lib.hid mok
  have ML := Lib.hid m40
  clear mok m40
  by_cases hk3 : (300 : Int) < (key.length : Int)
  · go_wp2_with fail
    go_ret
    exact ⟨rfl, BW.out⟩
  go_wp2_with fail
  refine (new_any w3).mono ?_
  rintro e w4 ⟨p, F0, rfl, hs4, hf4, hb4⟩
  have BW4 := Lib.hid (BW.out.trans (hb4.mono BW.out.size))
  have ST : Hid (∃ F, ShAt w4 p F (runF newS (l.take 0)) ∧ ∀ g, F g → w.heap.size ≤ g) := Lib.hid ⟨F0, hs4, fun g hg => Nat.le_trans BW.out.size (hf4 g hg)⟩
  clear hs4 hf4 hb4 BW
  go_wp2_with fail
  go_loopw [9] (fun s9 wr => ∃ k : Nat, k ≤ n ∧ s9 = .int .i64 (k : Int) ∧ Hid (∃ F, ShAt wr p F (runF newS (l.take k)) ∧ ∀ g, F g → w.heap.size ≤ g) ∧ Hid (Below w.heap.size w wr)) (fun i _ => n - (intOf i).toNat)
  case atStart => exact ⟨0, Nat.zero_le _, rfl, ST, BW4⟩
  case round =>
    clear ST BW4
    obtain ⟨k, hkn, rfl, SH, BW⟩ := hrel
    by_cases hlt : k < n
    · have hkl : k < l.length := by have := HN.out; omega
      have d1 : (k : Int) < (n : Int) := by omega
      have d2 : (0 : Int) ≤ (k : Int) := by omega
      obtain ⟨b, off, rfl, hb, c0, c1, c2, c3, c4, c5⟩ := ops_at (RA.out.below BW.out) hkl
      obtain ⟨F, sh, hF⟩ := SH.out
      have IN := run_inv' l k
      have LLo := LL.out
      have DO := do_any p F (runF newS (l.take k)) l[k] k wr IN (by omega) (LOK.out _ (List.getElem_mem hkl)) (HI.out _ (List.getElem_mem hkl)).1 (HI.out _ (List.getElem_mem hkl)).2 sh
      have RT := Lib.hid (runF_take newS l hkl)
      unfold opAgg at DO
      have FH := Lib.hid hF
      have DOH := Lib.hid DO
      clear DO hF sh IN
      generalize doF (runF newS (l.take k)) l[k] = R at *
      generalize l[k].kind = q0 at *
      generalize l[k].key = q1 at *
      generalize l[k].value = q2 at *
      generalize l[k].other = q3 at *
      generalize l[k].second = q4 at *
      generalize l[k].n = q5 at *
      go_wp2_with fail
      refine DOH.out.mono ?_
      rintro e w5 ⟨rfl, sp⟩
      obtain ⟨F5, s5, f5, b5⟩ := sp.base (B := w.heap.size) FH.out BW.out.size
      have SH5 : Hid (∃ F, ShAt w5 p F (runF newS (l.take (k + 1))) ∧ ∀ g, F g → w.heap.size ≤ g) := Lib.hid ⟨F5, by rw [RT.out]; exact s5, f5⟩
      have BW5 := Lib.hid (BW.out.trans b5)
      clear sp s5 f5 b5
      go_wp2_with fail
      exact ⟨⟨k + 1, by omega, by go_num, SH5, BW5⟩, by simp [intOf]; omega⟩
    · have d1 : ¬ (k : Int) < (n : Int) := by omega
      have hkl : l.length ≤ k := by have := HN.out; omega
      rw [List.take_of_length_le hkl] at SH
      have IN0 := run_inv Inv.new l
      have IN : Inv (runF newS l) 40 := IN0.mono (by have := LL.out; omega)
      have SI := IN.sh (by omega)
      generalize runF newS l = S at *
      obtain ⟨F, sh, hF⟩ := SH.out
      have OP := Lib.hid (open_any p F S wr SI IN.nrd sh)
      have F1 := Lib.hid hF
      have EF := Lib.hid (@openF_err S)
      have ER := Lib.hid (@openF_rd S)
      have IO := IN.open_
      have EL : (openF S).2.1 ≤ 1000 := by
        have := IN.opn
        unfold openF
        split
        · exact Nat.zero_le _
        · show S.opn + 1 ≤ 1000; omega
      clear hF sh SH IN0
      generalize openF S = R at *
      go_wp2_with fail
      refine OP.out.mono ?_
      rintro e w5 ⟨rfl, sp⟩
      obtain ⟨F5, s5, f5, b5⟩ := sp.base (B := w.heap.size) F1.out BW.out.size
      have S5 := Lib.hid s5
      have FF5 := Lib.hid f5
      have BW5 := Lib.hid (BW.out.trans b5)
      clear sp s5 f5 b5 OP BW F1
      by_cases he : R.2.2 = 0
      · have he' : ((R.2.2 : Int) == 0) = true := by rw [he]; rfl
        have RD := Lib.hid (ER.out he)
        generalize R.1 = S1 at *
        generalize R.2.1 = rr at *
        generalize hSc : S.clk = cc at *
        have SI1 := IO.sh (by omega)
        have C0 := read_any p F5 S1 rr (mkB key) w5 SI1 S5.out (by omega) (by rw [mkB_len]; omega)
        unfold ReadSaid at C0
        rw [mkB_list] at C0
        have C := Lib.hid C0
        have ST : Hid ((runF S1 (l2.take 0)).rd rr = some cc ∧ readF (runF S1 (l2.take 0)) rr key = readF S1 rr key) := Lib.hid ⟨RD.out, rfl⟩
        have SH0 : Hid (∃ F, ShAt w5 p F (runF S1 (l2.take 0)) ∧ ∀ g, F g → w.heap.size ≤ g) := Lib.hid ⟨F5, S5.out, FF5.out⟩
        clear C0 ER EF IN SI
        generalize readF S1 rr key = Q at *
        go_wp2_with fail
        refine C.out.mono ?_
        rintro e w6 ⟨rfl, b6⟩
        have SH6 : Hid (∃ F, ShAt w6 p F (runF S1 (l2.take 0)) ∧ ∀ g, F g → w.heap.size ≤ g) := Lib.hid (by obtain ⟨F, h1, h2⟩ := SH0.out; exact ⟨F, h1.below b6, h2⟩)
        have BW6 := Lib.hid (BW5.out.trans (b6.mono BW5.out.size))
        clear b6 C SH0 BW5 S5 FF5
        go_wp2_with fail
        go_loopw [14] (fun s14 wx => ∃ j : Nat, j ≤ n2 ∧ s14 = .int .i64 (j : Int) ∧ Hid (∃ F, ShAt wx p F (runF S1 (l2.take j)) ∧ ∀ g, F g → w.heap.size ≤ g) ∧ Hid (Below w.heap.size w wx) ∧ Hid ((runF S1 (l2.take j)).rd rr = some cc ∧ readF (runF S1 (l2.take j)) rr key = Q)) (fun i _ => n2 - (intOf i).toNat)
        case atStart => exact ⟨0, Nat.zero_le _, rfl, SH6, BW6, ST⟩
        case round =>
          clear SH6 BW6 ST
          obtain ⟨j, hjn, rfl, SH, BW, KQ⟩ := hrel
          by_cases hlt2 : j < n2
          · have hjl : j < l2.length := by have := HN2.out; omega
            have d3 : (j : Int) < (n2 : Int) := by omega
            have d4 : (0 : Int) ≤ (j : Int) := by omega
            obtain ⟨b, off, rfl, hb, c0, c1, c2, c3, c4, c5⟩ := ops_at (RA2.out.below BW.out) hjl
            obtain ⟨F, sh, hF⟩ := SH.out
            have IN1 : Inv (runF S1 (l2.take j)) (41 + j) := (run_inv IO (l2.take j)).mono (by rw [List.length_take]; omega)
            have MLo := ML.out
            have DO := do_any p F (runF S1 (l2.take j)) l2[j] (41 + j) wr IN1 (by omega) (MOK.out _ (List.getElem_mem hjl)) (HI2.out _ (List.getElem_mem hjl)).1 (HI2.out _ (List.getElem_mem hjl)).2 sh
            have RT := Lib.hid (runF_take S1 l2 hjl)
            have IS := Lib.hid (fun (h3 : ¬ (l2[j].kind % 6 = 3 ∧ l2[j].n = rr)) (h5 : ¬ (l2[j].kind % 6 = 5 ∧ l2[j].key = key)) => iso_step IN1 l2[j] KQ.out.1 key h3 h5)
            have ID := Lib.hid ((doF_inv IN1 l2[j]).sh (by omega))
            have KQ2 := Lib.hid KQ.out.2
            have nle : l2[j].n ≤ 255 := (HI2.out _ (List.getElem_mem hjl)).2
            unfold opAgg at DO
            have FH := Lib.hid hF
            have DOH := Lib.hid DO
            clear DO hF sh IN1 SH KQ
            generalize doF (runF S1 (l2.take j)) l2[j] = R2 at *
            generalize hq0 : l2[j].kind = q0 at *
            generalize hq1 : l2[j].key = q1 at *
            generalize l2[j].value = q2 at *
            generalize l2[j].other = q3 at *
            generalize l2[j].second = q4 at *
            generalize hq5 : l2[j].n = q5 at *
            have wn : IntKind.i64.wrap (q5 : Int) = (q5 : Int) := IntWalk.i64_in _ (by omega)
            have tO := mkB_tl q1
            have tK := mkB_tl key
            by_cases x3 : q0 % 6 = 3 ∧ q5 = rr
            · have b3 : ((q0 : Int) % 6 == 3) = true := by simp; omega
              have bn : ((q5 : Int) == (rr : Int)) = true := by simp; omega
              clear hq0 hq1 hq5
              go_wp2_with fail
              go_ret
              exact ⟨rfl, BW.out⟩
            by_cases x5 : q0 % 6 = 5 ∧ q1 = key
            · have b3 : ((q0 : Int) % 6 == 3) = false := by simp; omega
              have b5 : ((q0 : Int) % 6 == 5) = true := by simp; omega
              have bk : (q1 == key) = true := by rw [x5.2]; simp
              clear hq0 hq1 hq5
              go_wp2_with fail
              go_ret
              exact ⟨rfl, BW.out⟩
            have IS2 := Lib.hid (IS.out x3 x5)
            have cs : (((q0 : Int) % 6 == 3) = true ∧ ((q5 : Int) == (rr : Int)) = false ∧ ((q0 : Int) % 6 == 5) = false) ∨ (((q0 : Int) % 6 == 3) = false ∧ ((q0 : Int) % 6 == 5) = true ∧ (q1 == key) = false) ∨ (((q0 : Int) % 6 == 3) = false ∧ ((q0 : Int) % 6 == 5) = false) := by
              by_cases y3 : q0 % 6 = 3
              · refine .inl ⟨by simp; omega, ?_, by simp; omega⟩
                have : ¬ q5 = rr := fun e => x3 ⟨y3, e⟩
                simp; omega
              · by_cases y5 : q0 % 6 = 5
                · refine .inr (.inl ⟨by simp; omega, by simp; omega, ?_⟩)
                  have : ¬ q1 = key := fun e => x5 ⟨y5, e⟩
                  simpa using this
                · exact .inr (.inr ⟨by simp; omega, by simp; omega⟩)
            clear IS x3 x5 hq0 hq1 hq5
            rcases cs with ⟨b3, bn, b5⟩ | ⟨b3, b5, bk⟩ | ⟨b3, b5⟩
            all_goals
              go_wp2_with fail
              refine DOH.out.mono ?_
              rintro e w7 ⟨rfl, sp⟩
              obtain ⟨F7, s7, f7, b7⟩ := sp.base (B := w.heap.size) FH.out BW.out.size
              have BW7 := Lib.hid (BW.out.trans b7)
              have C0 := read_any p F7 R2.1 rr (mkB key) w7 ID.out s7 (by omega) (by rw [mkB_len]; omega)
              unfold ReadSaid at C0
              rw [mkB_list, IS2.out.2, KQ2.out] at C0
              have C := Lib.hid C0
              have S7 := Lib.hid s7
              have FF7 := Lib.hid f7
              clear C0 sp s7 f7 b7 DOH BW
              go_wp2_with fail
              refine C.out.mono ?_
              rintro e w8 ⟨rfl, b8⟩
              have SH8 : Hid (∃ F, ShAt w8 p F (runF S1 (l2.take (j + 1))) ∧ ∀ g, F g → w.heap.size ≤ g) := Lib.hid ⟨F7, by rw [RT.out]; exact S7.out.below b8, FF7.out⟩
              have BW8 := Lib.hid (BW7.out.trans (b8.mono BW7.out.size))
              have KQ8 : Hid ((runF S1 (l2.take (j + 1))).rd rr = some cc ∧ readF (runF S1 (l2.take (j + 1))) rr key = Q) := Lib.hid (by rw [RT.out]; exact ⟨IS2.out.1, IS2.out.2.trans KQ2.out⟩)
              clear b8 C
              go_wp2_with fail
              exact ⟨⟨j + 1, by omega, by go_num, SH8, BW8, KQ8⟩, by simp [intOf]; omega⟩
          · have d3 : ¬ (j : Int) < (n2 : Int) := by omega
            go_wp2_with fail
            go_ret
            exact ⟨rfl, BW.out⟩
      · have he2 := EF.out he
        have he' : ((R.2.2 : Int) == 0) = false := by simp; omega
        have he3 : ((R.2.2 : Int) == 21) = true := by rw [he2]; rfl
        go_wp2_with fail
        go_ret
        exact ⟨rfl, BW5.out⟩
end Go.Proofs.Ytfhgidbmeifflaa
