/- WALK: the statement ModeratePlain (printed by gen_mi.py). -/
import Derived.Test.YtniklmikdkjgiaaGreatDoorMH
import Derived.Test.YtniklmikdkjgiaaGreatDoorWD
set_option linter.unusedSimpArgs false
set_option linter.unusedVariables false
namespace Go.Proofs.YtniklmikdkjgiaaGreatDoor
open Go.RowKit Go.Maps Go.ChangeMaps Go.MapKept Go.WideShapes Go.WideMaps

/-- a world without moderators -/
def noM (x : WoV) : WoV := { x with mods := [], mv := .slice none 0 0 }
theorem noM_is {w : World} {x : WoV} (h : WoIs w x) : WoIs w (noM x) := ⟨h.st, h.ks, ⟨none, 0, rfl, Rd.nil_ _ _⟩, h.vv, h.rv, h.kz, h.kl, (by show 0 ≤ 9223372036854775807; decide)⟩
theorem noM_row {u : World} {g : Nat} {x : WoV} (h : u.heap[g]? = some (.cells (woL x).toArray 38 (0, 0))) : (u.setCell ⟨g, 2, none⟩ (.slice none 0 0)).heap[g]? = some (.cells (woL (noM x)).toArray 38 (0, 0)) := row_put8 (k := 2) h (.slice none 0 0)
theorem seenM_same {S T : List Tx} (h : ∀ t, t ∈ S ↔ t ∈ T) : seenM S = seenM T := by
  funext x
  cases x with
  | string t => show (if t ∈ S then _ else _) = (if t ∈ T then _ else _); simp only [h]
  | _ => rfl
/-- what was seen so far -/
def SeenI (w0 w : World) (bm : Nat) (ms : List Int) (l : List RV) (i : Nat) : Prop := ∃ S nk, MapAt w Tryz.prog 9 bm (seenM S) nk ∧ (∀ t, t ∈ S ↔ hasS (entS ms l) t = true) ∧ nk ≤ i ∧ OldB w0 w
theorem rows_len (L : List RV) : (rvsL L).length = L.length * 21 := rvsL_len L
theorem plain_len (l : List RV) : (plainL l).length ≤ l.length := by unfold plainL; exact List.length_filter_le _ _
set_option maxHeartbeats 16000000 in
set_option maxRecDepth 100000 in
theorem walk_ModeratePlain (A : Option Addr) (cA : Nat) (l : List RV) (x : WoV) (w : World) (h : Rw w A l) (hx : WoIs w x) (ht : Tab w) :
    Calls Tryz.prog 9 #[.slice A l.length cA, woA x] w fun e w' => e = .returned (.bool true) ∧ Below w.heap.size w w' := by
  unfold woA
  obtain ⟨n1, hn1⟩ : ∃ n1, n1 = l.length := ⟨_, rfl⟩
  have N1 := Lib.hid hn1
  rw [← hn1]
  obtain ⟨X, hX⟩ : ∃ X, X = w.alloc (.cells (woL x).toArray 38) := ⟨_, rfl⟩
  obtain ⟨bw, hbw⟩ : ∃ bw, w.heap.size = bw := ⟨_, rfl⟩
  have BX : Below w.heap.size w X := by rw [hX]; exact (Below.refl _ _).alloc (Nat.le_refl _) _
  have XX : X.heap[bw]? = some (.cells (woL x).toArray 38 (0, 0)) := by rw [hX, ← hbw]; exact heap_alloc_new w _
  have HB : Hid (∀ u, OldB X u → u.heap[bw]? = some (.cells (woL x).toArray 38 (0, 0))) := Lib.hid (fun u hu => (hu.block bw (lt_of_block XX)).trans XX)
  have RX : Hid (∀ u, OldB X u → u.rangeAt bw 0 (woL x)) := Lib.hid (fun u hu => by have := range_of_row (HB.out u hu); simpa using this)
  have HD := Lib.hid (head29_any X (ht.keep BX))
  have FW := Lib.hid (fun u (hu : OldB X u) => few29_any A n1 cA l x u hn1 (h.below (BX.trans (Below.mono hu BX.size))) (hx.below (BX.trans (Below.mono hu BX.size))))
  have H1 := Lib.hid h
  have HX := Lib.hid hx
  have HT := Lib.hid ht
  have BXH := Lib.hid BX
  have ONE := Lib.hid (woL_one hx)
  have hbw2 := Lib.hid hbw
  have X0 := Lib.hid hX
  unfold woA at FW
  clear hn1 hX hbw BX XX h hx ht
  go_enter Tryz.func9, Tryz.ntmps9
  go_upto_region 1 with fail
  rw [← X0.out, hbw2.out]
  clear X0
  go_wp2_with fail
  (with_reducible refine HD.out.mono ?_)
  rintro e wd1 ⟨rfl, b1⟩
  have O1 : OldB X wd1 := b1
  clear b1 HD
  go_wp2_with (refine wpList_load_mid rfl 38 (.tmp 3) rfl bw 0 rfl (woL x) _ (RX.out _ O1) Tryz.underlying38 rfl (mwo_szL _) ?_)
  (with_reducible refine (FW.out wd1 O1).mono ?_)
  rintro e wd2 ⟨rfl, b2⟩
  have O2 : OldB X wd2 := O1.then b2
  have B2 := Lib.hid (BXH.out.trans (Below.mono O2 BXH.out.size))
  clear b2 FW
  cases hf : (fewL (rcsC l) 20 && decide (x.mods.length ≤ 60))
  · go_wp2_with fail
    go_ret
    exact ⟨rfl, B2.out⟩
  rw [Bool.and_eq_true, decide_eq_true_eq] at hf
  obtain ⟨hf1, hf2⟩ := hf
  have R1 := Lib.hid (H1.out.rs (by decide) hf1)
  have ML : Hid (x.mods.length ≤ 1000000) := Lib.hid (Nat.le_trans hf2 (by decide))
  have N100 : n1 ≤ 100000 := by rw [N1.out]; exact R1.out.len
  have PL : Hid (∀ r ∈ plainL l, r ∈ l) := Lib.hid (fun r hr => (plain_mem hr).1)
  clear hf1 hf2 H1
  have S0 : Hid (wd2.ownsRow wd2.heap.size 56 21 (.slice none 0 0) (plainL (l.take 0)).length (rvsL (plainL (l.take 0)))) := Lib.hid (World.ownsRow_nil _ _ _ _)
  go_wp2_with fail
  go_loopw [6, 7] (fun s6 s7 wr => ∃ k : Nat, k ≤ n1 ∧ s7 = .int .i64 (k : Int) ∧ Hid (wr.ownsRow wd2.heap.size 56 21 s6 (plainL (l.take k)).length (rvsL (plainL (l.take k)))) ∧ Hid (OldB wd2 wr)) (fun _ i _ => n1 - (intOf i).toNat)
  case atStart => exact ⟨0, Nat.zero_le _, rfl, S0, Lib.hid (Below.refl _ _)⟩
  case round =>
    clear S0
    obtain ⟨k, hk, rfl, OW, OH⟩ := hrel
    by_cases hlt : k < n1
    · have hkl : k < l.length := by rw [← N1.out]; exact hlt
      have d1 : (k : Int) < (n1 : Int) := by omega
      have d2 : (0 : Int) ≤ (k : Int) := by omega
      have BL := B2.out.trans (Below.mono OH.out B2.out.size)
      obtain ⟨b, off, rfl, hb, hc⟩ := rvs_at (R1.out.rd.below BL) hkl
      have HI := (R1.out.is l[k] (List.getElem_mem hkl)).below BL
      have PT : Hid (plainL (l.take (k + 1)) = plainL (l.take k) ++ (if l[k].kind = 3 then [] else [l[k]])) := Lib.hid (plain_take hkl)
      have LE : (plainL (l.take k)).length ≤ k := Nat.le_trans (plain_len _) (by rw [List.length_take]; omega)
      generalize l[k] = r at *
      generalize plainL (l.take k) = G at *
      have ON2 := Lib.hid (rvL_one r ⟨_, HI⟩)
      have HC : Hid (wr.rangeAt b (off + k * 21) (rvL r)) := Lib.hid (fun j v hj => hc j v hj)
      have k0 : wr.cell? ⟨b, off + k * 21, none⟩ = some (.int .i64 r.kind) := by have := hc 0 _ rfl; simpa using this
      have bz : wd2.heap.size ≤ wr.heap.size := Below.size OH.out
      clear hc HI BL
      by_cases h3 : r.kind = 3
      · have g3 : (r.kind != 3) = false := by rw [h3]; rfl
        have PT2 : Hid (plainL (l.take (k + 1)) = G) := Lib.hid (by rw [PT.out, if_pos h3, List.append_nil])
        clear h3 PT
        go_wp2_with fail
        exact ⟨⟨k + 1, by omega, by go_num, by rw [PT2.out]; exact OW, OH⟩, by simp [intOf]; omega⟩
      · have g3 : (r.kind != 3) = true := by simpa using h3
        have PT2 : Hid (plainL (l.take (k + 1)) = G ++ [r]) := Lib.hid (by rw [PT.out, if_neg h3])
        clear h3 PT
        go_wp2_with (first
          | (refine wpList_load_mid rfl 56 (.tmp 35) rfl b (off + k * 21) rfl (rvL r) _ HC.out Tryz.underlying56 rfl (mrec_szL r) ?_)
          | (refine wpList_recs rfl [r] 1 _ rfl rfl (by decide) (by decide) (by kernel_rfl) ?_; rw [rvsL_one])
          | (at_builtin; refine wpList_appNG rfl (.tmp 32) (.tmp 37) 22 rfl Tryz.underlying22 info_rec rfl (by decide) wd2.heap.size _ G.length (rvsL G) (rvL r).toArray 1 (by decide) rfl (by intro y hy; exact (Array.all_eq_true_iff_forall_mem.1 ON2.out) y (by simpa using hy)) rfl rfl rfl OW.out bz (by omega) (by omega) ?_; intro g7 c7 w7 ho7 hg7 hl7 hb7))
        refine ⟨⟨k + 1, by omega, by go_num, ?_, Lib.hid (OH.out.trans hb7)⟩, by simp [intOf]; omega⟩
        rw [PT2.out, List.length_append, rvsL_app, rvsL_one]
        exact Lib.hid ho7
    · have d1 : ¬ (k : Int) < (n1 : Int) := by omega
      have TT : Hid (l.take k = l) := Lib.hid (List.take_of_length_le (by rw [← N1.out]; omega))
      rw [TT.out] at OW
      clear hlt hk
      obtain ⟨A6, c6, rfl, hR6, -⟩ := own_slG OW.out
      have BL := Lib.hid (B2.out.trans (Below.mono OH.out B2.out.size))
      have OXr : OldB X wr := O2.then OH.out
      have M6 : Rs wr A6 (plainL l) := ⟨hR6, fun r hr => (R1.out.is r (PL.out r hr)).below BL.out, fun r hr => R1.out.sz r (PL.out r hr), Nat.le_trans (plain_len l) R1.out.len⟩
      have NO3 : Hid (∀ r ∈ plainL l, r.kind ≠ 3) := Lib.hid (fun r hr => (plain_mem hr).2)
      have LP : Hid (entS x.mods (plainL l) = entS [] l) := Lib.hid (law_plain x.mods l)
      have LQ : (plainL l).length ≤ 100000 := M6.len
      obtain ⟨bare, hbare⟩ : ∃ bare, plainL l = bare := ⟨_, rfl⟩
      rw [hbare] at M6 NO3 LP LQ ⊢
      obtain ⟨n6, hn6⟩ : ∃ n6, n6 = bare.length := ⟨_, rfl⟩
      have N6 := Lib.hid hn6
      rw [← hn6] at LQ ⊢
      have SA := Lib.hid (status_any A6 n6 c6 bare x wr hn6 M6 (HX.out.below BL.out) ML.out (HT.out.keep BL.out))
      unfold woA at SA
      have M6H := Lib.hid M6
      have LEn : Hid ((entS x.mods bare).length ≤ 100000) := Lib.hid (Nat.le_trans (entS_len _ _) (by omega))
      have FRM : Hid (∀ e ∈ entS x.mods bare, e.cur ∈ bare) := Lib.hid (fun e he => (entS_from _ _ e he).cur)
      obtain ⟨es, hes⟩ : ∃ es, entS x.mods bare = es := ⟨_, rfl⟩
      rw [hes] at SA LP LEn FRM
      have HES := Lib.hid hes
      have PB : Hid (∀ r ∈ bare, r ∈ l) := Lib.hid (fun r hr => PL.out r (by rw [hbare]; exact hr))
      rw [hbare, ← hn6] at OW
      clear hbare hn6 hR6 hes M6 TT PL
      go_wp2_with (refine wpList_load_mid rfl 38 (.tmp 3) rfl bw 0 rfl (woL x) _ (RX.out _ OXr) Tryz.underlying38 rfl (mwo_szL _) ?_)
      (with_reducible refine SA.out.mono ?_)
      rintro e wd8 ⟨v8, rfl, ho8, b8⟩
      have O8 : OldB X wd8 := OXr.then b8
      have BWX := HB.out wd8 O8
      obtain ⟨Y, hY⟩ : ∃ Y, Y = wd8.setCell ⟨bw, 2, none⟩ (.slice none 0 0) := ⟨_, rfl⟩
      have YX : Y.heap[bw]? = some (.cells (woL (noM x)).toArray 38 (0, 0)) := by rw [hY]; exact noM_row BWX
      have BY : Hid (Below w.heap.size w Y) := Lib.hid (by rw [hY]; exact (BXH.out.trans (Below.mono O8 BXH.out.size)).setCell (by rw [hbw2.out]; exact Nat.le_refl _) _)
      have Hk : ∀ g, g ≠ bw → Y.heap[g]? = wd8.heap[g]? := fun g hg => by rw [hY]; exact Below.heap_setCell wd8 ⟨bw, 2, none⟩ _ g hg
      have YZ : wd8.heap.size ≤ Y.heap.size := by rw [hY]; simp
      have ho8Y := own_sameG ho8 (fun g hg => Hk g (fun e1 => by
        obtain ⟨-, cur, hc⟩ := own_cells ho8 hg
        rw [e1, BWX] at hc
        injection hc with hc; injection hc with _ hc; revert hc; decide))
      have ow8 := own_below OW.out b8 (Nat.le_refl _)
      have owY := own_sameG ow8 (fun g hg => Hk g (fun e1 => by
        obtain ⟨-, cur, hc⟩ := own_cells ow8 hg
        rw [e1, BWX] at hc
        injection hc with hc; injection hc with _ hc; revert hc; decide))
      have M6Y : Hid (Rs Y A6 bare) := Lib.hid ⟨own_rdG owY, fun r hr => (R1.out.is r (PB.out r hr)).below BY.out, M6H.out.sz, M6H.out.len⟩
      have EDI : Hid (∀ e ∈ es, EdIs Y e.cur) := Lib.hid (fun e he => ((R1.out.is _ (PB.out _ (FRM.out e he))).below BY.out).ed)
      have RY : Hid (Y.rangeAt bw 0 (woL (noM x))) := Lib.hid (by have := range_of_row YX; simpa using this)
      have SB := Lib.hid (status_any A n1 cA l (noM x) Y N1.out (R1.out.below BY.out) (noM_is (HX.out.below BY.out)) (by show 0 ≤ 1000000; decide) (HT.out.keep BY.out))
      unfold woA at SB
      rw [show entS (noM x).mods l = es from LP.out.symm] at SB
      obtain ⟨A8, c8, rfl, hR8, -⟩ := own_slG ho8Y
      have R8 := Lib.hid hR8
      have c2 : wd8.cell? ⟨bw, 2, none⟩ = some x.mv := load_block (i := 2) BWX rfl
      have f2 := free_blk BWX 2
      have HY := Lib.hid hY
      clear hY YX Hk YZ ho8Y ow8 owY ho8 BWX b8 O8 SA OW hR8 OXr
      go_upto_region 12 with fail
      rw [← HY.out]
      clear c2 f2 HY
      go_wp2_with (refine wpList_load_mid rfl 38 (.tmp 3) rfl bw 0 rfl (woL (noM x)) _ (RY.out) Tryz.underlying38 rfl (mwo_szL _) ?_)
      (with_reducible refine SB.out.mono ?_)
      rintro e wd9 ⟨v9, rfl, ho9, b9⟩
      have O9 : OldB Y wd9 := b9
      obtain ⟨A9, c9, rfl, hR9, -⟩ := own_slG ho9
      have R9 := Lib.hid hR9
      obtain ⟨bm, hbm⟩ : ∃ bm, wd9.heap.size = bm := ⟨_, rfl⟩
      obtain ⟨Wm, hWm⟩ : ∃ Wm, Wm = wd9.alloc (.map #[] 0) := ⟨_, rfl⟩
      have I0 : Hid (SeenI wd9 Wm bm x.mods (bare.take 0) 0) := Lib.hid ⟨[], 0, by
        have := MapAt.made wd9 Tryz.prog 9
        rw [← hWm, hbm] at this
        rw [show seenM [] = fun _ => none from by funext y; cases y <;> rfl]
        exact this, (fun t => by rw [List.take_zero]; simp [entS, hasS]), Nat.le_refl _, by rw [hWm]; exact (Below.refl _ _).alloc (Nat.le_refl _) _⟩
      have BM : Hid (wd9.heap.size ≤ bm) := Lib.hid (by omega)
      have mk : ∀ u : World, (Instr.makeMap 62 none).run Tryz.prog u = .ok (.map (some u.heap.size)) (u.alloc (.map #[] 0)) := fun u => run_makeMap _ _
      have Wm0 := Lib.hid hWm
      have bm0 := Lib.hid hbm
      have K0 : Hid ((entS x.mods (bare.take 0)).length = 0) := Lib.hid (by rw [List.take_zero]; rfl)
      clear hWm hbm ho9 b9 SB hR9
      go_upto_region 15 with fail
      rw [← Wm0.out, bm0.out]
      clear mk Wm0 bm0
      have I00 := I0
      go_wp2_with fail
      have RI : Hid (∀ r ∈ bare, RvIs wd9 r ∧ RcSz r.c) := Lib.hid (fun r hr => ⟨(M6Y.out.is r hr).below O9, M6Y.out.sz r hr⟩)
      have T9 : Hid (Tab wd9) := Lib.hid (HT.out.keep (BY.out.trans (Below.mono O9 BY.out.size)))
      have D9 : Hid (∀ e ∈ es, EdIs wd9 e.cur) := Lib.hid (fun e he => (EDI.out e he).below O9)
      have R69 : Hid (Rd wd9 A6 (rvsL bare)) := Lib.hid (M6Y.out.rd.below O9)
      have R89 : Hid (Rd wd9 A8 (stsL es)) := Lib.hid (R8.out.below O9)
      have B9 : Hid (Below w.heap.size w wd9) := Lib.hid (BY.out.trans (Below.mono O9 BY.out.size))
      have LES : Hid (es.length ≤ 100000) := Lib.hid LEn.out
      obtain ⟨ne, hne⟩ : ∃ ne, es.length = ne := ⟨_, rfl⟩
      have NE := Lib.hid hne
      try rw [hne]
      clear hne I00 O9 M6Y EDI R8 RY BY M6H RX HB FRM R1
      go_loopw [10, 12, 13] (fun s10 s12 s13 wr => ∃ i : Nat, i ≤ n6 ∧ s12 = .int .i64 (i : Int) ∧ s10 = .int .i64 ((entS x.mods (bare.take i)).length : Int) ∧ (∃ p, s13 = p) ∧ Hid (SeenI wd9 wr bm x.mods (bare.take i) i)) (fun _ i _ _ => n6 - (intOf i).toNat)
      case atStart => exact ⟨0, Nat.zero_le _, rfl, by rw [K0.out]; rfl, ⟨_, rfl⟩, I0⟩
      case round =>
        clear I0 K0
        obtain ⟨i, hi, rfl, rfl, ⟨p13, rfl⟩, SI⟩ := hrel
        by_cases hlt : i < n6
        · have hkl : i < bare.length := by rw [← N6.out]; exact hlt
          have d1 : (i : Int) < (n6 : Int) := by omega
          have d2 : (0 : Int) ≤ (i : Int) := by omega
          obtain ⟨Sx, nk, mp, hS, hnk, OW⟩ := SI.out
          obtain ⟨b, off, rfl, hb, hc⟩ := rvs_at R69.out hkl
          obtain ⟨HI, HS⟩ := RI.out bare[i] (List.getElem_mem hkl)
          have PS : Hid (bare[i].kind ≠ 1 ∨ hasS (entS x.mods (bare.take i)) (idC bare[i].c) = true → entS x.mods (bare.take (i + 1)) = entS x.mods (bare.take i)) := Lib.hid (fun hh => plain_same x.mods bare NO3.out hkl hh)
          have PN : Hid (bare[i].kind = 1 → hasS (entS x.mods (bare.take i)) (idC bare[i].c) = false → es[(entS x.mods (bare.take i)).length]? = some (newS bare[i]) ∧ entS x.mods (bare.take (i + 1)) = entS x.mods (bare.take i) ++ [newS bare[i]]) := Lib.hid (fun h1 h2 => by have := plain_next x.mods bare NO3.out hkl h1 h2; rw [HES.out] at this; exact this)
          generalize bare[i] = r at *
          have HI1 := HI.below OW
          have RA : Hid (∀ u, OldB wd9 u → u.rangeAt b (off + i * 21) (rvL r)) := Lib.hid (rangeAt_old hb (fun j v hj => hc j v hj))
          obtain ⟨A1, c1, v1, hEs⟩ := HI1.ed
          have k0 : ∀ u, OldB wd9 u → u.cell? ⟨b, off + i * 21, none⟩ = some (.int .i64 r.kind) := fun u hu => by have := RA.out u hu 0 _ rfl; simpa using this
          have k6 : ∀ u, OldB wd9 u → u.cell? ⟨b, off + i * 21 + 6, none⟩ = some (.slice A1 r.edits.length c1) := fun u hu => by rw [← v1]; exact RA.out u hu 6 _ rfl
          have IDC := Lib.hid (id_any r wr HI1 HS (T9.out.keep OW))
          unfold rvA at IDC
          have SW : OldB wr wr := Below.refl _ _
          have ES0 := Lib.hid (entS_len x.mods (bare.take i))
          have V1 := Lib.hid v1
          have HEs := Lib.hid hEs
          have KS := Lib.hid (key_str (idC r.c) (Nat.le_trans (idC_len r.c) (by decide)))
          clear hc HI HS HI1 v1 hEs
          go_upto_region 19 with (refine wpList_load_mid rfl 56 (.tmp 55) rfl b (off + i * 21) rfl (rvL r) _ (RA.out _ OW) Tryz.underlying56 rfl (mrec_szL r) ?_)
          (with_reducible refine IDC.out.mono ?_)
          rintro e u1 ⟨rfl, b1⟩
          have O1 : OldB wr u1 := b1
          have mp1 := mp.same (b1.block bm mp.lt)
          have O91 : OldB wd9 u1 := OW.then b1
          have k0u := k0 u1 O91
          have lk := mp1.look strK Tryz.underlying62 (zBool u1) KS.out
          clear b1 IDC
          by_cases h1 : r.kind = 1
          · have g1 : (r.kind != 1) = false := by rw [h1]; rfl
            cases hh : hasS (entS x.mods (bare.take i)) (idC r.c)
            · have nm : idC r.c ∉ Sx := fun hm => by rw [(hS _).1 hm] at hh; cases hh
              have lv : ((seenM Sx (.string (idC r.c))).getD (.bool false)) = .bool false := by
                show (if idC r.c ∈ Sx then _ else _ : Option Value).getD _ = _
                rw [if_neg nm]; rfl
              rw [lv] at lk
              obtain ⟨n1x, n2x⟩ := PN.out h1 hh
              have N2X := Lib.hid n2x
              have hm : seenM Sx (.string (idC r.c)) = none := by show (if idC r.c ∈ Sx then _ else _ : Option Value) = _; rw [if_neg nm]
              obtain ⟨w2, hup, mp2, hg2⟩ := mp1.upd strK Tryz.underlying62 (by unfold maxLen; omega) KS.out (.bool true)
              rw [seenM_upd, hm] at mp2
              have O2x : OldB wd9 w2 := O91.trans ⟨hg2.os, hg2.tape, hg2.output, hg2.size, fun k hk => hg2.block k (Nat.lt_of_lt_of_le hk O91.size) (fun e1 => by injection e1 with e1; have := BM.out; omega)⟩
              have SI2 : Hid (∀ u, OldB w2 u → SeenI wd9 u bm x.mods (bare.take (i + 1)) (i + 1)) := Lib.hid (fun u hu => ⟨idC r.c :: Sx, _, mp2.same (hu.block bm mp2.lt), (fun t => by
                rw [N2X.out, hasS_app, List.mem_cons, hS t]
                show t = idC r.c ∨ _ ↔ (_ || decide (idC r.c = t)) = true
                rw [Bool.or_eq_true, decide_eq_true_eq]
                constructor
                · rintro (rfl | h)
                  · exact .inr rfl
                  · exact .inl h
                · rintro (h | rfl)
                  · exact .inr h
                  · exact .inl rfl), (by simp; omega), O2x.trans (Below.mono hu O2x.size)⟩)
              have KL : Hid ((entS x.mods (bare.take (i + 1))).length = (entS x.mods (bare.take i)).length + 1) := Lib.hid (by rw [N2X.out, List.length_append]; rfl)
              have hlt8 := (List.getElem?_eq_some_iff.1 n1x).1
              have hat8 : es[(entS x.mods (bare.take i)).length] = newS r := (List.getElem?_eq_some_iff.1 n1x).2
              obtain ⟨g8, o8, rfl, hg8, h8⟩ := rd_rows 4 (by decide) (fun _ => rfl) (R89.out.below O2x) hlt8
              rw [hat8] at h8
              have E8 : stL (newS r) = [.string (mkB (idC r.c)), .int .i64 1, .string ⟨#[]⟩, .slice A1 r.edits.length c1] := by unfold stL newS; dsimp only; rw [V1.out]; rfl
              rw [E8] at h8
              have LA := Lib.hid (rangeAt_old hg8 h8)
              have SM : Hid (∀ u, OldB w2 u → Calls Tryz.prog 34 #[.agg #[.string (mkB (idC r.c)), .int .i64 1, .string ⟨#[]⟩, .slice A1 r.edits.length c1], .agg #[.string (mkB (idC r.c)), .int .i64 1, .string ⟨#[]⟩, .slice A1 r.edits.length c1]] u fun e w' => e = .returned (.bool true) ∧ Below u.heap.size u w') := Lib.hid (fun u hu => by
                have ed : EdIs u (newS r).cur := D9.out (newS r) (by rw [← hat8]; exact List.getElem_mem hlt8) |>.below (O2x.trans (Below.mono hu O2x.size))
                have := same29_any (newS r) (newS r) u ed ed
                rw [sameX_refl, E8] at this
                exact this)
              have k6w : ∀ u, OldB w2 u → u.cell? ⟨b, off + i * 21 + 6, none⟩ = some (.slice A1 r.edits.length c1) := fun u hu => k6 u (O2x.trans (Below.mono hu O2x.size))
              have ZS : (Tryz.prog.info? 42).map (·.size) = some ([.string (mkB (idC r.c)), .int .i64 1, .string ⟨#[]⟩, .slice A1 r.edits.length c1] : List Value).length := by kernel_rfl
              generalize mkB (idC r.c) = kv at *
              obtain ⟨kk, hkk⟩ : ∃ kk, (entS x.mods (bare.take i)).length = kk := ⟨_, rfl⟩
              rw [hkk] at hlt8 LA KL ES0 ⊢
              have d6 : kk < ne := by have := NE.out; omega
              have d7 : ¬ ne ≤ kk := by omega
              have d8 : i < n6 := hlt
              have d3 : (kk : Int) < (ne : Int) := by omega
              have d4 : decide ((ne : Int) ≤ (kk : Int)) = false := decide_eq_false (by omega)
              have d5 : (0 : Int) ≤ (kk : Int) := by omega
              have KZ := LES.out
              have KZ2 : ne ≤ 100000 := by rw [← NE.out]; exact KZ
              clear h1 hh lv nm n1x n2x hm hat8 h8 E8 PS PN k0 k6 hkk mp mp1 mp2
              go_upto_region 21 with fail
              (refine wp_region_noPanic ?_; refine wp_region_held_drew (S := (OldB w2)) (by kernel_rfl) ?_ (fun hHeld => ?_); exact Below.drew (Below.refl _ _))
              (refine tkW 0 ?_; try simp only [gmS])
              (refine tkW 1 ?_; try simp only [gmS])
              (refine tkW 2 ?_; try simp only [gmS])
              (refine tkW 3 ?_; try simp only [gmS])
              (refine tkW 4 ?_; try simp only [gmS])
              (refine tkW 5 ?_; try simp only [gmS])
              (refine tkW 6 ?_; try simp only [gmS])
              (refine tkW 7 ?_; try simp only [gmS])
              (refine ldW 8 42 (.tmp 78) g8 (o8 + kk * 4) _ _ LA.out Tryz.underlying42 ZS ?_; try simp only [gmS])
              (refine tkW 9 ?_; try simp only [gmS])
              (refine tkW 10 ?_; try simp only [gmS])
              (refine tkW 11 ?_; try simp only [gmS])
              (refine tkW 12 ?_; try simp only [gmS])
              (refine tkW 13 ?_; try simp only [gmS])
              (refine tkW 14 ?_; try simp only [gmS])
              (refine tkW 15 ?_; try simp only [gmS])
              refine rdR 16 (fun K hK => ?_)
              go_simp
              (with_reducible refine (SM.out _ hHeld).mono ?_)
              rintro e u4 ⟨rfl, t4⟩
              (refine hK.out _ _ (OldB.then hHeld t4) (fun hHeld2 => ?_); clear hK K hHeld; have hHeld := hHeld2; clear hHeld2; try simp only [gmS])
              (refine tkW 17 ?_; try simp only [gmS])
              (refine tkW 18 ?_; try simp only [gmS])
              have SIF := SI2.out _ hHeld
              (refine wpAnyH_done (by kernel_rfl) ?_ _; refine NoPanic.normal ?_)
              go_wp2_with fail
              exact ⟨⟨i + 1, by omega, by go_num, by rw [KL.out]; go_num, ⟨_, rfl⟩, Lib.hid SIF⟩, by simp [intOf]; omega⟩
            · have hm : idC r.c ∈ Sx := (hS _).2 hh
              have lv : ((seenM Sx (.string (idC r.c))).getD (.bool false)) = .bool true := by
                show (if idC r.c ∈ Sx then _ else _ : Option Value).getD _ = _
                rw [if_pos hm]; rfl
              rw [lv] at lk
              have PS2 := Lib.hid (PS.out (.inr hh))
              clear hh hm lv h1
              go_wp2_with fail
              exact ⟨⟨i + 1, by omega, by go_num, by rw [PS2.out], ⟨_, rfl⟩, Lib.hid ⟨Sx, nk, mp1, by rw [PS2.out]; exact hS, by omega, O91⟩⟩, by simp [intOf]; omega⟩
          · have g1 : (r.kind != 1) = true := by simpa using h1
            have PS2 := Lib.hid (PS.out (.inl h1))
            clear h1
            go_wp2_with fail
            exact ⟨⟨i + 1, by omega, by go_num, by rw [PS2.out], ⟨_, rfl⟩, Lib.hid ⟨Sx, nk, mp1, by rw [PS2.out]; exact hS, by omega, O91⟩⟩, by simp [intOf]; omega⟩
        · have d1 : ¬ (i : Int) < (n6 : Int) := by omega
          have TT : Hid (bare.take i = bare) := Lib.hid (List.take_of_length_le (by rw [← N6.out]; omega))
          have AL := Lib.hid (fun u (hu : OldB wd9 u) => all29_any A8 A9 c8 c9 es es ne ne u NE.out.symm NE.out.symm (by rw [← NE.out]; exact Nat.le_trans LES.out (by decide)) (by rw [← NE.out]; exact Nat.le_trans LES.out (by decide)) (R89.out.below hu) (R9.out.below hu) (fun e he => (D9.out e he).below hu) (fun e he => (D9.out e he).below hu))
          rw [sameXs_refl] at AL
          obtain ⟨Sx, nk, mp, hS, hnk, OW⟩ := SI.out
          rw [TT.out, HES.out, NE.out]
          have BF := Lib.hid (B9.out.trans (Below.mono OW B9.out.size))
          clear hS mp SI
          go_wp2_with fail
          (with_reducible refine (AL.out _ OW).mono ?_)
          rintro e u5 ⟨rfl, b5⟩
          have BG := Lib.hid (BF.out.trans (b5.mono BF.out.size))
          clear b5
          go_wp2_with fail
          go_ret
          exact ⟨rfl, BG.out⟩
end Go.Proofs.YtniklmikdkjgiaaGreatDoor
