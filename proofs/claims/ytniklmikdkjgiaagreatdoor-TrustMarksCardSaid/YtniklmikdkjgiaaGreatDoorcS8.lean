import Derived.Test.YtniklmikdkjgiaaGreatDoorcLD
import Derived.Test.YtniklmikdkjgiaaGreatDoorcS6
import Derived.Test.YtniklmikdkjgiaaGreatDoorWD
set_option linter.all false
set_option maxHeartbeats 16000000
set_option maxRecDepth 100000
namespace Go.Proofs.YtniklmikdkjgiaaGreatDoor
open Go.RowKit
def laterB (r q : RV) (i k : Nat) : Bool := decide (i < k) && (decide (q.kind = 2) && (decide (q.author = r.author) && (decide (q.target = r.target) && validR q.c)))
def ownB (r q : RV) (i k : Nat) : Bool := decide (q.kind = 1) && (decide (q.author = r.author) && (decide (idC q.c = r.target) && decide (k < i)))
def dropU (l : List RV) (r : RV) (i j : Nat) : Bool := (List.range j).any fun k => match l[k]? with
  | none => false
  | some q => laterB r q i k || (ownB r q i k && decide (firstGo r.target l 0 = (k : Int)))
theorem dropB_eq {l : List RV} {i : Nat} (h : i < l.length) : dropB l i = (decide (l[i].kind = 2) && dropU l l[i] i l.length) := by
  unfold dropB dropU laterB ownB
  rw [List.getElem?_eq_getElem h]
  rfl
theorem dropU_succ {l : List RV} {r : RV} {i j : Nat} (h : j < l.length) : dropU l r i (j + 1) = (dropU l r i j || (laterB r l[j] i j || (ownB r l[j] i j && decide (firstGo r.target l 0 = (j : Int))))) := by
  unfold dropU
  rw [List.range_succ, List.any_append, List.any_cons, List.any_nil, List.getElem?_eq_getElem h, Bool.or_false]
theorem lessM_succ {l : List RV} {k : Nat} (h : k < l.length) : lessM l (k + 1) = lessM l k ++ if dropB l k = true then [] else [l[k]] := by
  show lessM l k ++ _ = _
  rw [List.getElem?_eq_getElem h]
theorem lessM_len (l : List RV) : ∀ k, k ≤ l.length → (lessM l k).length ≤ k
  | 0, _ => Nat.le_refl _
  | k + 1, h => by
    have := lessM_len l k (by omega)
    rw [lessM_succ (by omega), List.length_append]
    split
    · rw [List.length_nil]; omega
    · rw [List.length_singleton]; omega
theorem lessM_mem {l : List RV} : ∀ k, k ≤ l.length → ∀ r ∈ lessM l k, r ∈ l
  | 0, _, _, hr => by cases hr
  | k + 1, h, r, hr => by
    rw [lessM_succ (by omega)] at hr
    rcases List.mem_append.1 hr with hr | hr
    · exact lessM_mem k (by omega) r hr
    · split at hr
      · cases hr
      · rw [List.mem_singleton.1 hr]; exact List.getElem_mem _
theorem walk_TrustMarks (A : Option Addr) (cA : Nat) (l : List RV) (x : WoV) (w : World) (h : Rw w A l) (hx : WoIs w x) (ht : Tab w) :
    Calls Tryz.prog 14 #[.slice A l.length cA, woA x] w fun e w' => e = .returned (.bool true) ∧ Below w.heap.size w w' := by
  unfold woA
  obtain ⟨n1, hn1⟩ : ∃ n1, n1 = l.length := ⟨_, rfl⟩
  have N1 := Lib.hid hn1
  rw [← hn1]
  obtain ⟨X, hX⟩ : ∃ X, X = w.alloc (.cells (woL x).toArray 38) := ⟨_, rfl⟩
  obtain ⟨bw, hbw⟩ : ∃ bw, w.heap.size = bw := ⟨_, rfl⟩
  have BX : Below w.heap.size w X := by rw [hX]; exact (Below.refl _ _).alloc (Nat.le_refl _) _
  have XX : X.heap[bw]? = some (.cells (woL x).toArray 38 (0, 0)) := by rw [hX, ← hbw]; exact heap_alloc_new w _
  have HB : Hid (∀ u, OldB X u → u.heap[bw]? = some (.cells (woL x).toArray 38 (0, 0))) := Lib.hid (fun u hu => (hu.block bw (lt_of_block XX)).trans XX)
  have RX : Hid (∀ u, OldB X u → u.rangeAt bw 0 (woL x)) := Lib.hid (fun u hu => by have := range_of_row (HB.out u hu); simpa using this)
  have HD := Lib.hid (head30_any X (ht.keep BX))
  have FW := Lib.hid (fun u (hu : OldB X u) => few30_any A n1 cA l x u hn1 (h.below (BX.trans (Below.mono hu BX.size))) (hx.below (BX.trans (Below.mono hu BX.size))))
  have BB : Hid (∀ u, OldB X u → Below w.heap.size w u) := Lib.hid (fun u hu => BX.trans (Below.mono hu BX.size))
  have H1 := Lib.hid h
  have HX := Lib.hid hx
  have HT := Lib.hid ht
  have hbw2 := Lib.hid hbw
  have X0 := Lib.hid hX
  unfold woA at FW
  clear hn1 hX hbw BX XX h hx ht HB
  go_enter Tryz.func14, Tryz.ntmps14
  go_upto_region 1 with fail
  rw [← X0.out, hbw2.out]
  clear X0
  go_wp2_with fail
  (with_reducible refine HD.out.mono ?_)
  rintro e wd1 ⟨rfl, b1⟩
  have O1 : OldB X wd1 := b1
  clear b1 HD
  go_wp2_with (refine wpList_load_mid rfl 38 (.tmp 3) rfl bw 0 rfl (woL x) _ (RX.out _ O1) Tryz.underlying38 rfl (mwo_szL _) ?_)
  (with_reducible refine (FW.out wd1 O1).mono ?_)
  rintro e wd2 ⟨rfl, b2⟩
  have O2 : OldB X wd2 := O1.then b2
  have B2 := Lib.hid (BB.out _ O2)
  clear b2 FW
  cases hf : (fewL (rcsC l) 14 && fewW x)
  · go_wp2_with fail
    go_ret
    exact ⟨rfl, B2.out⟩
  rw [Bool.and_eq_true] at hf
  obtain ⟨hf1, hf2⟩ := hf
  unfold fewW at hf2
  simp only [Bool.and_eq_true, decide_eq_true_eq] at hf2
  have R1 := Lib.hid (H1.out.rs (by decide) hf1)
  have ML : Hid (x.mods.length ≤ 1000000) := Lib.hid (Nat.le_trans hf2.2.1 (by decide))
  have KL : Hid (x.keys.length ≤ 1000) := Lib.hid (Nat.le_trans hf2.1 (by decide))
  have N100 : n1 ≤ 100000 := by rw [N1.out]; exact R1.out.len
  clear hf1 hf2 H1 O1
  have S0 : Hid (wd2.ownsRow wd2.heap.size 56 21 (.slice none 0 0) (lessM l 0).length (rvsL (lessM l 0))) := Lib.hid (World.ownsRow_nil _ _ _ _)
  go_wp2_with fail
  go_loopw [6, 7, 8, 9, 10, 11, 12] (fun s6 s7 s8 s9 s10 s11 s12 wr => ∃ k : Nat, k ≤ n1 ∧ s7 = .int .i64 (k : Int) ∧ (∃ p, s8 = p) ∧ (∃ p, s9 = p) ∧ (∃ p, s10 = p) ∧ (∃ p, s11 = p) ∧ (∃ p, s12 = p) ∧ Hid (wr.ownsRow wd2.heap.size 56 21 s6 (lessM l k).length (rvsL (lessM l k))) ∧ Hid (OldB wd2 wr)) (fun _ i _ _ _ _ _ _ => n1 - (intOf i).toNat)
  case atStart => exact ⟨0, Nat.zero_le _, rfl, ⟨_, rfl⟩, ⟨_, rfl⟩, ⟨_, rfl⟩, ⟨_, rfl⟩, ⟨_, rfl⟩, S0, Lib.hid (Below.refl _ _)⟩
  case round =>
    clear S0
    obtain ⟨i, hk, rfl, ⟨p8, rfl⟩, ⟨p9, rfl⟩, ⟨p10, rfl⟩, ⟨p11, rfl⟩, ⟨p12, rfl⟩, OW, OH⟩ := hrel
    by_cases hlt : i < n1
    · have hkl : i < l.length := by rw [← N1.out]; exact hlt
      have d1 : (i : Int) < (n1 : Int) := by omega
      have d2 : (0 : Int) ≤ (i : Int) := by omega
      have BL := B2.out.trans (Below.mono OH.out B2.out.size)
      obtain ⟨b, off, rfl, hb, hc⟩ := rvs_at (R1.out.rd.below BL) hkl
      have HI := (R1.out.is l[i] (List.getElem_mem hkl)).below BL
      have PT : Hid (lessM l (i + 1) = lessM l i ++ if dropB l i = true then [] else [l[i]]) := Lib.hid (lessM_succ hkl)
      have DB : Hid (dropB l i = (decide (l[i].kind = 2) && dropU l l[i] i l.length)) := Lib.hid (dropB_eq hkl)
      have LE := lessM_len l i (by omega)
      have TL : Hid (l[i].target.length ≤ 1000000) := Lib.hid (R1.out.sz l[i] (List.getElem_mem hkl)).target
      generalize l[i] = r at *
      generalize dropB l i = db at *
      generalize lessM l i = G at *
      have ONE := Lib.hid (rvL_one r ⟨_, HI⟩)
      have HC : Hid (wr.rangeAt b (off + i * 21) (rvL r)) := Lib.hid (fun j v hj => hc j v hj)
      obtain ⟨X, hX⟩ : ∃ X, X = wr.alloc (.cells (rvL r).toArray 56) := ⟨_, rfl⟩
      obtain ⟨bx, hbx⟩ : ∃ bx, wr.heap.size = bx := ⟨_, rfl⟩
      have BX : OldB wr X := by rw [hX]; exact (Below.refl _ _).alloc (Nat.le_refl _) _
      have XX : X.heap[bx]? = some (.cells (rvL r).toArray 56 (0, 0)) := by rw [hX, ← hbx]; exact heap_alloc_new wr _
      have XXH : Hid (∀ u, OldB X u → u.heap[bx]? = some (.cells (rvL r).toArray 56 (0, 0))) := Lib.hid (fun u hu => (hu.block bx (lt_of_block XX)).trans XX)
      have RXB : Hid (∀ u, OldB X u → u.rangeAt bx 0 (rvL r)) := Lib.hid (fun u hu => by have := range_of_row (XXH.out u hu); simpa using this)
      have rk : Hid (∀ u, OldB X u → u.cell? ⟨bx, 0, none⟩ = some (.int .i64 r.kind)) := Lib.hid (fun u hu => load_block (i := 0) (XXH.out u hu) rfl)
      have ra : Hid (∀ u, OldB X u → u.cell? ⟨bx, 1, none⟩ = some (.int .i64 r.author)) := Lib.hid (fun u hu => load_block (i := 1) (XXH.out u hu) rfl)
      have rt : Hid (∀ u, OldB X u → u.cell? ⟨bx, 7, none⟩ = some (.string (mkB r.target))) := Lib.hid (fun u hu => load_block (i := 7) (XXH.out u hu) rfl)
      have OX : Hid (OldB wd2 X) := Lib.hid (OH.out.then BX)
      have OWX := Lib.hid (own_below OW.out BX (Nat.le_refl _))
      have FS := Lib.hid (fun z (hz : z.length = 21) => setCells_fresh wr z (rvL r) hz rfl ONE.out)
      have X0 := Lib.hid hX
      have X1 := Lib.hid hbx
      have I0 : Hid (false = (decide (r.kind = 2) && dropU l r i 0)) := Lib.hid (by show false = (_ && false); rw [Bool.and_false])
      have tt := mkB_tl r.target
      clear hc HI BL BX XX hX hbx OW OH
      go_upto_region 9 with (first
        | (refine wpList_load_mid rfl 56 (.tmp 27) rfl b (off + i * 21) rfl (rvL r) _ HC.out Tryz.underlying56 rfl (mrec_szL r) ?_)
        | (refine wpList_store_mid rfl 56 (.tmp 8) (.tmp 28) rfl wr.heap.size 0 (rvL r).toArray rfl rfl (there_of_row (heap_alloc_new wr _) (Nat.le_refl 21)) (mrec_szA r) ONE.out ?_; rw [List.toList_toArray, FS.out _ rfl, ← X0.out]))
      rw [X1.out]
      try simp only [gmS]
      clear X0 X1 FS HC
      go_wp2_with fail
      go_loopw [9, 10, 11, 12] (fun s9 s10 s11 s12 wq => ∃ j : Nat, ∃ o : Bool, j ≤ n1 ∧ s10 = .int .i64 (j : Int) ∧ s9 = .bool o ∧ (∃ p, s11 = p) ∧ (∃ p, s12 = p) ∧ Hid (o = (decide (r.kind = 2) && dropU l r i j)) ∧ Hid (OldB X wq)) (fun _ i _ _ _ => n1 - (intOf i).toNat)
      case atStart => exact ⟨0, false, Nat.zero_le _, rfl, rfl, ⟨_, rfl⟩, ⟨_, rfl⟩, I0, Lib.hid (Below.refl _ _)⟩
      case round =>
        clear I0
        obtain ⟨j, o, hj, rfl, rfl, ⟨p11, rfl⟩, ⟨p12, rfl⟩, IH, OQ⟩ := hrel
        have rkw := rk.out wr OQ.out
        by_cases hgo : j < n1 ∧ r.kind = 2
        · obtain ⟨hlt2, hr2⟩ := hgo
          have hjl : j < l.length := by rw [← N1.out]; exact hlt2
          have d3 : (j : Int) < (n1 : Int) := by omega
          have d4 : (0 : Int) ≤ (j : Int) := by omega
          have gr2 : (r.kind == 2) = true := by rw [hr2]; rfl
          have BQ := Lib.hid (B2.out.trans (Below.mono (OX.out.then OQ.out) B2.out.size))
          obtain ⟨b2, off2, e2, hb2, hc2⟩ := rvs_at (R1.out.rd.below BQ.out) hjl
          injection e2 with e2
          injection e2 with e3 e4
          subst e3 e4
          have HIq := Lib.hid ((R1.out.is l[j] (List.getElem_mem hjl)).below BQ.out)
          have HSq := Lib.hid (R1.out.sz l[j] (List.getElem_mem hjl))
          have DU : Hid (dropU l r i (j + 1) = (dropU l r i j || (laterB r l[j] i j || (ownB r l[j] i j && decide (firstGo r.target l 0 = (j : Int)))))) := Lib.hid (dropU_succ hjl)
          have IH2 : Hid (o = dropU l r i j) := Lib.hid (by rw [IH.out, hr2]; rfl)
          generalize l[j] = q at *
          have HQ : Hid (∀ u, OldB wr u → u.rangeAt b (off + j * 21) (rvL q)) := Lib.hid (fun u hu k v hv => (World.cell?_of_block (w := wr) (hu.block b hb2)).trans (hc2 k v hv))
          have qk : Hid (∀ u, OldB wr u → u.cell? ⟨b, off + j * 21, none⟩ = some (.int .i64 q.kind)) := Lib.hid (fun u hu => by have := HQ.out u hu 0 _ rfl; simpa using this)
          have qa : Hid (∀ u, OldB wr u → u.cell? ⟨b, off + j * 21 + 1, none⟩ = some (.int .i64 q.author)) := Lib.hid (fun u hu => HQ.out u hu 1 _ rfl)
          have qt : Hid (∀ u, OldB wr u → u.cell? ⟨b, off + j * 21 + 7, none⟩ = some (.string (mkB q.target))) := Lib.hid (fun u hu => HQ.out u hu 7 _ rfl)
          have VQ : Hid (∀ u, OldB wr u → Calls Tryz.prog 40 #[.agg (rvL q).toArray] u fun e w' => e = .returned (.bool (validR q.c)) ∧ Below u.heap.size u w') := Lib.hid (fun u hu => rvalid_any q u (HIq.out.below hu) HSq.out (HT.out.keep (BQ.out.trans (Below.mono hu BQ.out.size))))
          have IQ : Hid (∀ u, OldB wr u → Calls Tryz.prog 37 #[.agg (rvL q).toArray] u fun e w' => e = .returned (.string (mkB (idC q.c))) ∧ Below u.heap.size u w') := Lib.hid (fun u hu => id_any q u (HIq.out.below hu) HSq.out (HT.out.keep (BQ.out.trans (Below.mono hu BQ.out.size))))
          have FQ : Hid (∀ u, OldB wr u → Calls Tryz.prog 45 #[.slice (some ⟨b, off, none⟩) n1 cA, .string (mkB r.target)] u fun e w' => e = .returned (.int .i64 (firstGo r.target l 0)) ∧ Below u.heap.size u w') := Lib.hid (fun u hu => first30_any (some ⟨b, off, none⟩) n1 cA l r.target u N1.out (R1.out.below (BQ.out.trans (Below.mono hu BQ.out.size))) (HT.out.keep (BQ.out.trans (Below.mono hu BQ.out.size))))
          have OXQ : Hid (∀ u, OldB wr u → OldB X u) := Lib.hid (fun u hu => OQ.out.then hu)
          have tq := mkB_tl q.target
          clear hc2 hb2 BQ HIq HSq IH
          obtain ⟨y0, rfl⟩ : ∃ y, y = wr := ⟨_, rfl⟩
          go_upto_region 13 with fail
          go_cut [11] (fun s11 wx => s11 = .bool (laterB r q i j) ∧ Hid (OldB y0 wx))
          case first =>
            have LB : Hid (laterB r q i j = (decide (i < j) && (decide (q.kind = 2) && (decide (q.author = r.author) && (decide (q.target = r.target) && validR q.c))))) := Lib.hid rfl
            have qkw := qk.out y0 (Below.refl _ _)
            have qaw := qa.out y0 (Below.refl _ _)
            have qtw := qt.out y0 (Below.refl _ _)
            have raw := ra.out y0 (OXQ.out _ (Below.refl _ _))
            have rtw := rt.out y0 (OXQ.out _ (Below.refl _ _))
            clear DU IH2 rkw
            by_cases c1 : i < j
            · have e1 : (i : Int) < (j : Int) := by omega
              by_cases c2 : q.kind = 2
              · have g2 : (q.kind == 2) = true := by rw [c2]; rfl
                by_cases c3 : q.author = r.author
                · have g3 : (q.author == r.author) = true := by rw [c3]; simp
                  by_cases c4 : q.target = r.target
                  · have g4 : (q.target == r.target) = true := by rw [c4]; simp
                    have LV : Hid (laterB r q i j = validR q.c) := Lib.hid (by rw [LB.out, decide_eq_true c1, decide_eq_true c2, decide_eq_true c3, decide_eq_true c4]; rfl)
                    have qk' := qk.out
                    have qa' := qa.out
                    have qt' := qt.out
                    have ra' : ∀ u, OldB y0 u → u.cell? ⟨bx, 1, none⟩ = some (.int .i64 r.author) := fun u hu => ra.out u (OXQ.out u hu)
                    have rt' : ∀ u, OldB y0 u → u.cell? ⟨bx, 7, none⟩ = some (.string (mkB r.target)) := fun u hu => rt.out u (OXQ.out u hu)
                    clear qkw qaw qtw raw rtw
                    (refine wp_region_noPanic ?_; refine wp_region_held_drew (S := (OldB y0)) (by kernel_rfl) ?_ (fun hHeld => ?_); exact Below.drew (Below.refl _ _))
                    generalize y0.drew = ud at *
                    (refine tkW 0 ?_; try simp only [gmS])
                    (refine tkW 1 ?_; try simp only [gmS])
                    (refine tkW 2 ?_; try simp only [gmS])
                    (refine tkW 3 ?_; try simp only [gmS])
                    (refine tkW 4 ?_; try simp only [gmS])
                    (refine tkW 5 ?_; try simp only [gmS])
                    (refine tkW 6 ?_; try simp only [gmS])
                    (refine tkW 7 ?_; try simp only [gmS])
                    (refine tkW 8 ?_; try simp only [gmS])
                    (refine tkW 9 ?_; try simp only [gmS])
                    (refine tkW 10 ?_; try simp only [gmS])
                    (refine tkW 11 ?_; try simp only [gmS])
                    (refine tkW 12 ?_; try simp only [gmS])
                    (refine tkW 13 ?_; try simp only [gmS])
                    (refine tkW 14 ?_; try simp only [gmS])
                    (refine tkW 15 ?_; try simp only [gmS])
                    (refine tkW 16 ?_; try simp only [gmS])
                    (refine tkW 17 ?_; try simp only [gmS])
                    (refine tkW 18 ?_; try simp only [gmS])
                    (refine tkW 19 ?_; try simp only [gmS])
                    (refine tkW 20 ?_; try simp only [gmS])
                    (refine tkW 21 ?_; try simp only [gmS])
                    (refine tkW 22 ?_; try simp only [gmS])
                    (refine tkW 23 ?_; try simp only [gmS])
                    (refine tkW 24 ?_; try simp only [gmS])
                    (refine tkW 25 ?_; try simp only [gmS])
                    (refine tkW 26 ?_; try simp only [gmS])
                    (refine tkW 27 ?_; try simp only [gmS])
                    (refine tkW 28 ?_; try simp only [gmS])
                    (refine tkW 29 ?_; try simp only [gmS])
                    (refine tkW 30 ?_; try simp only [gmS])
                    (refine tkW 31 ?_; try simp only [gmS])
                    (refine tkW 32 ?_; try simp only [gmS])
                    (refine tkW 33 ?_; try simp only [gmS])
                    (refine tkW 34 ?_; try simp only [gmS])
                    (refine ldW 35 56 (.tmp 74) b (off + j * 21) (rvL q) _ HQ.out Tryz.underlying56 (mrec_szL q) ?_; try simp only [gmS])
                    refine rdR 36 (fun K hK => ?_)
                    go_simp
                    (with_reducible refine (VQ.out _ hHeld).mono ?_)
                    rintro e z1 ⟨rfl, t1⟩
                    (refine hK.out _ _ (OldB.then hHeld t1) (fun hHeld2 => ?_); clear hK K hHeld; have hHeld := hHeld2; clear hHeld2; try simp only [gmS])
                    (refine tkW 37 ?_; try simp only [gmS])
                    (refine tkW 38 ?_; try simp only [gmS])
                    have OF : Hid (OldB y0 z1) := Lib.hid hHeld
                    (refine wpAnyH_done (by kernel_rfl) ?_ _; refine NoPanic.normal ?_)
                    go_wp2_with fail
                    go_meet
                    exact ⟨by rw [LV.out], OF⟩
                  · have g4 : (q.target == r.target) = false := by simpa using c4
                    have LV : Hid (laterB r q i j = false) := Lib.hid (by rw [LB.out, decide_eq_false c4]; simp)
                    clear LB
                    go_quiet (fail)
                    go_wp2_with fail
                    go_meet
                    exact ⟨by rw [LV.out], Lib.hid (below_drewN (show Below _ _ _ from Below.refl _ _) _)⟩
                · have g3 : (q.author == r.author) = false := by simpa using c3
                  have LV : Hid (laterB r q i j = false) := Lib.hid (by rw [LB.out, decide_eq_false c3]; simp)
                  clear LB
                  go_quiet (fail)
                  go_wp2_with fail
                  go_meet
                  exact ⟨by rw [LV.out], Lib.hid (below_drewN (show Below _ _ _ from Below.refl _ _) _)⟩
              · have g2 : (q.kind == 2) = false := by simpa using c2
                have LV : Hid (laterB r q i j = false) := Lib.hid (by rw [LB.out, decide_eq_false c2]; simp)
                clear LB
                go_quiet (fail)
                go_wp2_with fail
                go_meet
                exact ⟨by rw [LV.out], Lib.hid (below_drewN (show Below _ _ _ from Below.refl _ _) _)⟩
            · have e1 : ¬ (i : Int) < (j : Int) := by omega
              have LV : Hid (laterB r q i j = false) := Lib.hid (by rw [LB.out, decide_eq_false c1]; simp)
              clear LB
              go_quiet (fail)
              go_wp2_with fail
              go_meet
              exact ⟨by rw [LV.out], Lib.hid (below_drewN (show Below _ _ _ from Below.refl _ _) _)⟩
          case rest =>
            obtain ⟨rfl, O1'⟩ := hcut
            obtain ⟨y1, rfl⟩ : ∃ y, y = wc := ⟨_, rfl⟩
            have OL : OldB y0 y1 := O1'.out
            clear O1' VQ
            go_upto_region 14 with fail
            go_cut [12] (fun s12 wx => s12 = .bool (ownB r q i j) ∧ Hid (OldB y1 wx))
            case first =>
              have LB : Hid (ownB r q i j = (decide (q.kind = 1) && (decide (q.author = r.author) && (decide (idC q.c = r.target) && decide (j < i))))) := Lib.hid rfl
              have qkw := qk.out y1 OL
              have qaw := qa.out y1 OL
              have raw := ra.out y1 (OXQ.out _ OL)
              clear DU IH2 rkw
              by_cases c2 : q.kind = 1
              · have g2 : (q.kind == 1) = true := by rw [c2]; rfl
                by_cases c3 : q.author = r.author
                · have g3 : (q.author == r.author) = true := by rw [c3]; simp
                  have qk' : ∀ u, OldB y1 u → u.cell? ⟨b, off + j * 21, none⟩ = some (.int .i64 q.kind) := fun u hu => qk.out u (OL.then hu)
                  have qa' : ∀ u, OldB y1 u → u.cell? ⟨b, off + j * 21 + 1, none⟩ = some (.int .i64 q.author) := fun u hu => qa.out u (OL.then hu)
                  have ra' : ∀ u, OldB y1 u → u.cell? ⟨bx, 1, none⟩ = some (.int .i64 r.author) := fun u hu => ra.out u (OXQ.out u (OL.then hu))
                  have rt' : ∀ u, OldB y1 u → u.cell? ⟨bx, 7, none⟩ = some (.string (mkB r.target)) := fun u hu => rt.out u (OXQ.out u (OL.then hu))
                  have HQ1 : Hid (∀ u, OldB y1 u → u.rangeAt b (off + j * 21) (rvL q)) := Lib.hid (fun u hu => HQ.out u (OL.then hu))
                  have IQ1 : Hid (∀ u, OldB y1 u → Calls Tryz.prog 37 #[.agg (rvL q).toArray] u fun e w' => e = .returned (.string (mkB (idC q.c))) ∧ Below u.heap.size u w') := Lib.hid (fun u hu => IQ.out u (OL.then hu))
                  have ti := mkB_tl (idC q.c)
                  generalize idC q.c = iq at *
                  clear qkw qaw raw
                  (refine wp_region_noPanic ?_; refine wp_region_held_drew (S := (OldB y1)) (by kernel_rfl) ?_ (fun hHeld => ?_); exact Below.drew (Below.refl _ _))
                  generalize y1.drew = ud at *
                  (refine tkW 0 ?_; try simp only [gmS])
                  (refine tkW 1 ?_; try simp only [gmS])
                  (refine tkW 2 ?_; try simp only [gmS])
                  (refine tkW 3 ?_; try simp only [gmS])
                  (refine tkW 4 ?_; try simp only [gmS])
                  (refine tkW 5 ?_; try simp only [gmS])
                  (refine tkW 6 ?_; try simp only [gmS])
                  (refine tkW 7 ?_; try simp only [gmS])
                  (refine tkW 8 ?_; try simp only [gmS])
                  (refine tkW 9 ?_; try simp only [gmS])
                  (refine tkW 10 ?_; try simp only [gmS])
                  (refine tkW 11 ?_; try simp only [gmS])
                  (refine tkW 12 ?_; try simp only [gmS])
                  (refine tkW 13 ?_; try simp only [gmS])
                  (refine tkW 14 ?_; try simp only [gmS])
                  (refine tkW 15 ?_; try simp only [gmS])
                  (refine tkW 16 ?_; try simp only [gmS])
                  (refine tkW 17 ?_; try simp only [gmS])
                  (refine tkW 18 ?_; try simp only [gmS])
                  (refine tkW 19 ?_; try simp only [gmS])
                  (refine ldW 20 56 (.tmp 97) b (off + j * 21) (rvL q) _ HQ1.out Tryz.underlying56 (mrec_szL q) ?_; try simp only [gmS])
                  (refine tkW 22 ?_; try simp only [gmS])
                  (refine tkW 23 ?_; try simp only [gmS])
                  refine rdR 21 (fun K hK => ?_)
                  go_simp
                  (with_reducible refine (IQ1.out _ hHeld).mono ?_)
                  rintro e z1 ⟨rfl, t1⟩
                  (refine hK.out _ _ (OldB.then hHeld t1) (fun hHeld2 => ?_); clear hK K hHeld; have hHeld := hHeld2; clear hHeld2; try simp only [gmS])
                  by_cases c4 : iq = r.target
                  · have g4 : (iq == r.target) = true := by rw [c4]; simp
                    (refine tkW 24 ?_; try simp only [gmS])
                    (refine tkW 25 ?_; try simp only [gmS])
                    (refine tkW 26 ?_; try simp only [gmS])
                    by_cases c5 : j < i
                    · have e5 : (j : Int) < (i : Int) := by omega
                      have LV : Hid (ownB r q i j = true) := Lib.hid (by rw [LB.out, decide_eq_true c2, decide_eq_true c3, decide_eq_true c4, decide_eq_true c5]; rfl)
                      (refine tkW 27 ?_; try simp only [gmS])
                      (refine tkW 28 ?_; try simp only [gmS])
                      (refine tkW 29 ?_; try simp only [gmS])
                      (refine tkW 30 ?_; try simp only [gmS])
                      (refine tkW 31 ?_; try simp only [gmS])
                      have OF : Hid (OldB y1 z1) := Lib.hid hHeld
                      (refine wpAnyH_done (by kernel_rfl) ?_ _; refine NoPanic.normal ?_)
                      go_wp2_with fail
                      go_meet
                      exact ⟨by rw [LV.out], OF⟩
                    · have e5 : ¬ (j : Int) < (i : Int) := by omega
                      have LV : Hid (ownB r q i j = false) := Lib.hid (by rw [LB.out, decide_eq_false c5]; simp)
                      (refine tkW 27 ?_; try simp only [gmS])
                      (refine tkW 28 ?_; try simp only [gmS])
                      (refine tkW 29 ?_; try simp only [gmS])
                      (refine tkW 30 ?_; try simp only [gmS])
                      (refine tkW 31 ?_; try simp only [gmS])
                      have OF : Hid (OldB y1 z1) := Lib.hid hHeld
                      (refine wpAnyH_done (by kernel_rfl) ?_ _; refine NoPanic.normal ?_)
                      go_wp2_with fail
                      go_meet
                      exact ⟨by rw [LV.out], OF⟩
                  · have g4 : (iq == r.target) = false := by simpa using c4
                    have LV : Hid (ownB r q i j = false) := Lib.hid (by rw [LB.out, decide_eq_false c4]; simp)
                    (refine tkW 24 ?_; try simp only [gmS])
                    (refine tkW 25 ?_; try simp only [gmS])
                    (refine tkW 26 ?_; try simp only [gmS])
                    (refine skW 27 ?_; try simp only [gmS])
                    (refine skW 28 ?_; try simp only [gmS])
                    (refine skW 29 ?_; try simp only [gmS])
                    (refine tkW 30 ?_; try simp only [gmS])
                    (refine tkW 31 ?_; try simp only [gmS])
                    have OF : Hid (OldB y1 z1) := Lib.hid hHeld
                    (refine wpAnyH_done (by kernel_rfl) ?_ _; refine NoPanic.normal ?_)
                    go_wp2_with fail
                    go_meet
                    exact ⟨by rw [LV.out], OF⟩
                · have g3 : (q.author == r.author) = false := by simpa using c3
                  have LV : Hid (ownB r q i j = false) := Lib.hid (by rw [LB.out, decide_eq_false c3]; simp)
                  clear LB
                  go_quiet (fail)
                  go_wp2_with fail
                  go_meet
                  exact ⟨by rw [LV.out], Lib.hid (below_drewN (show Below _ _ _ from Below.refl _ _) _)⟩
              · have g2 : (q.kind == 1) = false := by simpa using c2
                have LV : Hid (ownB r q i j = false) := Lib.hid (by rw [LB.out, decide_eq_false c2]; simp)
                clear LB
                go_quiet (fail)
                go_wp2_with fail
                go_meet
                exact ⟨by rw [LV.out], Lib.hid (below_drewN (show Below _ _ _ from Below.refl _ _) _)⟩
            case rest =>
              obtain ⟨rfl, O2'⟩ := hcut
              have OL2 : OldB y0 wc := OL.then O2'.out
              have OX2 : Hid (OldB X wc) := Lib.hid (OXQ.out _ OL2)
              have rtw := rt.out wc OX2.out
              have FQ2 := Lib.hid (FQ.out wc OL2)
              have NXT : Hid (∀ o', o' = (o || (laterB r q i j || (ownB r q i j && decide (firstGo r.target l 0 = (j : Int))))) → o' = (decide (r.kind = 2) && dropU l r i (j + 1))) := Lib.hid (fun o' e => by rw [e, DU.out, ← IH2.out, hr2]; rfl)
              generalize laterB r q i j = lb at *
              generalize ownB r q i j = ob at *
              generalize firstGo r.target l 0 = fg at *
              clear DU IH2 rkw qk qa qt IQ FQ HQ OL OL2 O2' OXQ
              cases o
              · cases lb
                · cases ob
                  · have NX : Hid (false = (decide (r.kind = 2) && dropU l r i (j + 1))) := Lib.hid (NXT.out _ rfl)
                    clear NXT FQ2
                    go_wp2_with fail
                    exact ⟨⟨j + 1, false, by omega, by go_num, rfl, ⟨_, rfl⟩, ⟨_, rfl⟩, NX, OX2⟩, by simp [intOf]; omega⟩
                  · go_wp2_with fail
                    (with_reducible refine FQ2.out.mono ?_)
                    rintro e z1 ⟨rfl, t1⟩
                    have OX3 : Hid (OldB X z1) := Lib.hid (OX2.out.then t1)
                    clear t1 FQ2 rtw
                    by_cases c6 : fg = (j : Int)
                    · have g6 : (fg == (j : Int)) = true := by rw [c6]; simp
                      have NX : Hid (true = (decide (r.kind = 2) && dropU l r i (j + 1))) := Lib.hid (NXT.out _ (by rw [decide_eq_true c6]; rfl))
                      clear NXT
                      go_wp2_with fail
                      exact ⟨⟨j + 1, true, by omega, by go_num, rfl, ⟨_, rfl⟩, ⟨_, rfl⟩, NX, OX3⟩, by simp [intOf]; omega⟩
                    · have g6 : (fg == (j : Int)) = false := by simpa using c6
                      have NX : Hid (false = (decide (r.kind = 2) && dropU l r i (j + 1))) := Lib.hid (NXT.out _ (by rw [decide_eq_false c6]; rfl))
                      clear NXT
                      go_wp2_with fail
                      exact ⟨⟨j + 1, false, by omega, by go_num, rfl, ⟨_, rfl⟩, ⟨_, rfl⟩, NX, OX3⟩, by simp [intOf]; omega⟩
                · have NX : Hid (true = (decide (r.kind = 2) && dropU l r i (j + 1))) := Lib.hid (NXT.out _ rfl)
                  clear NXT FQ2
                  go_wp2_with fail
                  exact ⟨⟨j + 1, true, by omega, by go_num, rfl, ⟨_, rfl⟩, ⟨_, rfl⟩, NX, OX2⟩, by simp [intOf]; omega⟩
              · have NX : Hid (true = (decide (r.kind = 2) && dropU l r i (j + 1))) := Lib.hid (NXT.out _ rfl)
                clear NXT FQ2
                go_wp2_with fail
                exact ⟨⟨j + 1, true, by omega, by go_num, rfl, ⟨_, rfl⟩, ⟨_, rfl⟩, NX, OX2⟩, by simp [intOf]; omega⟩
        · have DX : Hid (db = o) := Lib.hid (by
            rw [DB.out, IH.out]
            by_cases h2 : r.kind = 2
            · have : j = l.length := by have := N1.out; have : ¬ j < n1 := fun h => hgo ⟨h, h2⟩; omega
              rw [this]
            · rw [decide_eq_false h2]; rfl)
          rw [DX.out] at PT
          have OQ2 := Lib.hid (OX.out.then OQ.out)
          have OWQ := Lib.hid (own_below OWX.out OQ.out (Nat.le_refl _))
          have RXW := Lib.hid (RXB.out wr OQ.out)
          have bz : wd2.heap.size ≤ wr.heap.size := Below.size (show Below _ _ _ from OQ2.out)
          clear DX DB IH OWX RXB rk ra rt OX XXH
          by_cases hlt2 : j < n1
          · have d3 : (j : Int) < (n1 : Int) := by omega
            have gr2 : (r.kind == 2) = false := by simpa using (fun h => hgo ⟨hlt2, h⟩)
            cases o
            · have PT2 : Hid (lessM l (i + 1) = G ++ [r]) := Lib.hid (by rw [PT.out, if_neg (by decide)])
              clear PT hgo
              go_wp2_with (first
                | (refine wpList_load_mid rfl 56 (.tmp 8) rfl bx 0 rfl (rvL r) _ RXW.out Tryz.underlying56 rfl (mrec_szL r) ?_)
                | (refine wpList_recs rfl [r] 1 _ rfl rfl (by decide) (by decide) (by kernel_rfl) ?_; rw [rvsL_one])
                | (at_builtin; refine wpList_appNG rfl (.tmp 126) (.tmp 128) 22 rfl Tryz.underlying22 info_rec rfl (by decide) wd2.heap.size _ G.length (rvsL G) (rvL r).toArray 1 (by decide) rfl (by intro y hy; exact (Array.all_eq_true_iff_forall_mem.1 ONE.out) y (by simpa using hy)) rfl rfl rfl OWQ.out bz (by omega) (by omega) ?_; intro g7 c7 w7 ho7 hg7 hl7 hb7))
              refine ⟨⟨i + 1, by omega, by go_num, ⟨_, rfl⟩, ⟨_, rfl⟩, ⟨_, rfl⟩, ⟨_, rfl⟩, ⟨_, rfl⟩, ?_, Lib.hid (OQ2.out.trans hb7)⟩, by simp [intOf]; omega⟩
              rw [PT2.out, List.length_append, rvsL_app, rvsL_one]
              exact Lib.hid ho7
            · have PT2 : Hid (lessM l (i + 1) = G) := Lib.hid (by rw [PT.out, if_pos rfl, List.append_nil])
              clear PT hgo
              go_wp2_with fail
              exact ⟨⟨i + 1, by omega, by go_num, ⟨_, rfl⟩, ⟨_, rfl⟩, ⟨_, rfl⟩, ⟨_, rfl⟩, ⟨_, rfl⟩, by rw [PT2.out]; exact OWQ, OQ2⟩, by simp [intOf]; omega⟩
          · have d3 : ¬ (j : Int) < (n1 : Int) := by omega
            cases o
            · have PT2 : Hid (lessM l (i + 1) = G ++ [r]) := Lib.hid (by rw [PT.out, if_neg (by decide)])
              clear PT hgo
              go_wp2_with (first
                | (refine wpList_load_mid rfl 56 (.tmp 8) rfl bx 0 rfl (rvL r) _ RXW.out Tryz.underlying56 rfl (mrec_szL r) ?_)
                | (refine wpList_recs rfl [r] 1 _ rfl rfl (by decide) (by decide) (by kernel_rfl) ?_; rw [rvsL_one])
                | (at_builtin; refine wpList_appNG rfl (.tmp 126) (.tmp 128) 22 rfl Tryz.underlying22 info_rec rfl (by decide) wd2.heap.size _ G.length (rvsL G) (rvL r).toArray 1 (by decide) rfl (by intro y hy; exact (Array.all_eq_true_iff_forall_mem.1 ONE.out) y (by simpa using hy)) rfl rfl rfl OWQ.out bz (by omega) (by omega) ?_; intro g7 c7 w7 ho7 hg7 hl7 hb7))
              refine ⟨⟨i + 1, by omega, by go_num, ⟨_, rfl⟩, ⟨_, rfl⟩, ⟨_, rfl⟩, ⟨_, rfl⟩, ⟨_, rfl⟩, ?_, Lib.hid (OQ2.out.trans hb7)⟩, by simp [intOf]; omega⟩
              rw [PT2.out, List.length_append, rvsL_app, rvsL_one]
              exact Lib.hid ho7
            · have PT2 : Hid (lessM l (i + 1) = G) := Lib.hid (by rw [PT.out, if_pos rfl, List.append_nil])
              clear PT hgo
              go_wp2_with fail
              exact ⟨⟨i + 1, by omega, by go_num, ⟨_, rfl⟩, ⟨_, rfl⟩, ⟨_, rfl⟩, ⟨_, rfl⟩, ⟨_, rfl⟩, by rw [PT2.out]; exact OWQ, OQ2⟩, by simp [intOf]; omega⟩
    · have d1 : ¬ (i : Int) < (n1 : Int) := by omega
      have TT : Hid (lessM l i = lessM l l.length) := Lib.hid (by rw [show i = l.length by rw [← N1.out]; omega])
      rw [TT.out] at OW
      clear hlt hk TT
      obtain ⟨A6, c6, rfl, hR6, -⟩ := own_slG OW.out
      have BL := Lib.hid (B2.out.trans (Below.mono OH.out B2.out.size))
      have OXr : OldB X wr := O2.then OH.out
      have BR : Hid (∀ u, OldB wr u → Below w.heap.size w u) := Lib.hid (fun u hu => BL.out.trans (Below.mono hu BL.out.size))
      have M6 : Rs wr A6 (lessM l l.length) := ⟨hR6, fun r hr => (R1.out.is r (lessM_mem l.length (Nat.le_refl _) r hr)).below BL.out, fun r hr => R1.out.sz r (lessM_mem l.length (Nat.le_refl _) r hr), Nat.le_trans (lessM_len l l.length (Nat.le_refl _)) R1.out.len⟩
      have EQ : Hid (lvT x (lessM l l.length) = lvT x l) := Lib.hid (lvT_marks x l)
      generalize lessM l l.length = less at *
      have SA : Hid (∀ u, OldB wr u → Calls Tryz.prog 43 #[.slice A n1 cA, .agg (woL x).toArray] u fun e w' => ∃ v, e = .returned v ∧ w'.ownsRow u.heap.size 69 2 v x.keys.length (ptsL (lvP (lvT x l))) ∧ Below u.heap.size u w') := Lib.hid (fun u hu => lvls_any A n1 cA l x u N1.out (R1.out.below (BR.out u hu)) (HX.out.below (BR.out u hu)) ML.out KL.out (HT.out.keep (BR.out u hu)))
      have SB : Hid (∀ u, OldB wr u → Calls Tryz.prog 43 #[.slice A6 less.length c6, .agg (woL x).toArray] u fun e w' => ∃ v, e = .returned v ∧ w'.ownsRow u.heap.size 69 2 v x.keys.length (ptsL (lvP (lvT x l))) ∧ Below u.heap.size u w') := Lib.hid (fun u hu => by
        rw [← EQ.out]
        exact lvls_any A6 less.length c6 less x u rfl (M6.below hu) (HX.out.below (BR.out u hu)) ML.out KL.out (HT.out.keep (BR.out u hu)))
      have RXR : Hid (∀ u, OldB wr u → u.rangeAt bw 0 (woL x)) := Lib.hid (fun u hu => RX.out u (OXr.then hu))
      have LN : Hid ((lvP (lvT x l)).length = x.keys.length) := Lib.hid (by rw [lvP_len, lvT_len])
      have KL2 := KL.out
      generalize lvP (lvT x l) = L at *
      clear EQ M6 hR6 R1 OW
      go_upto_region 18 with fail
      (refine wp_region_noPanic ?_; refine wp_region_held_drew (S := (OldB wr)) (by kernel_rfl) ?_ (fun hHeld => ?_); exact Below.drew (Below.refl _ _))
      (refine tkW 0 ?_; try simp only [gmS])
      (refine tkW 1 ?_; try simp only [gmS])
      (refine tkW 2 ?_; try simp only [gmS])
      (refine ldW 3 38 (.tmp 3) bw 0 (woL x) _ RXR.out Tryz.underlying38 (mwo_szL x) ?_; try simp only [gmS])
      (refine tkW 5 ?_; try simp only [gmS])
      (refine ldW 6 38 (.tmp 3) bw 0 (woL x) _ RXR.out Tryz.underlying38 (mwo_szL x) ?_; try simp only [gmS])
      refine rdR 4 (fun K hK => ?_)
      go_simp
      (with_reducible refine (SA.out _ hHeld).mono ?_)
      rintro e z1 ⟨a1, rfl, ho1, t1⟩
      obtain ⟨A9, c9, rfl, hR9, -⟩ := own_slG ho1
      (refine hK.out _ _ (OldB.then hHeld t1) (fun hHeld2 => ?_); clear hK K hHeld; have hHeld := hHeld2; clear hHeld2; try simp only [gmS])
      refine rdR 7 (fun K hK => ?_)
      go_simp
      (with_reducible refine (SB.out _ hHeld).mono ?_)
      rintro e z2 ⟨a2, rfl, ho2, t2⟩
      obtain ⟨A10, c10, rfl, hR10, -⟩ := own_slG ho2
      have AL := Lib.hid (same30_any A9 A10 x.keys.length c9 c10 L z2 LN.out.symm KL2 (hR9.below t2) hR10)
      (refine hK.out _ _ (OldB.then hHeld t2) (fun hHeld2 => ?_); clear hK K hHeld; have hHeld := hHeld2; clear hHeld2; try simp only [gmS])
      refine rdR 8 (fun K hK => ?_)
      go_simp
      (with_reducible refine AL.out.mono ?_)
      rintro e z3 ⟨rfl, t3⟩
      (refine hK.out _ _ (OldB.then hHeld t3) (fun hHeld2 => ?_); clear hK K hHeld; have hHeld := hHeld2; clear hHeld2; try simp only [gmS])
      (refine tkW 9 ?_; try simp only [gmS])
      (refine tkW 10 ?_; try simp only [gmS])
      have FF := Lib.hid (BR.out _ hHeld)
      (refine wpAnyH_done (by kernel_rfl) ?_ _; refine NoPanic.normal ?_)
      go_wp2_with fail
      go_ret
      exact ⟨rfl, FF.out⟩
end Go.Proofs.YtniklmikdkjgiaaGreatDoor
