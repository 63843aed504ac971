/- WALK: the statement AtlasPatches. -/
import Derived.Test.YtlejeelmlclnkaaGreatDoorDF
set_option linter.unusedSimpArgs false
set_option linter.unusedVariables false
namespace Go.Proofs.YtlejeelmlclnkaaGreatDoor
open Go.RowKit

/-- two lists that split a third one -/
structure SpV (l F S : List DV) : Prop where
  fs : F.Sublist l
  ss : S.Sublist l
  all : ∀ d ∈ l, d ∈ F ∨ d ∈ S
  one : ∀ d ∈ F, ∀ e ∈ S, d.id ≠ e.id
theorem spV_nil (l : List DV) : SpV (l.take 0) [] [] := ⟨by simp, by simp, fun d hd => by simp at hd, fun d hd => by cases hd⟩
theorem take_lt {l : List DV} (hs : At.SrtD (l.map DV.d)) {k : Nat} (hk : k < l.length) : ∀ d ∈ l.take k, At.lt d.id l[k].id = true := by
  intro d hd
  have h1 : l.take k ++ [l[k]] = l.take (k + 1) := (List.take_succ_eq_append_getElem hk).symm
  have h2 : At.SrtD ((l.take (k + 1)).map DV.d) := List.Pairwise.sublist ((List.take_sublist _ _).map _) hs
  unfold At.SrtD at h2
  rw [← h1, List.map_append, List.pairwise_append] at h2
  exact h2.2.2 d.d (List.mem_map.2 ⟨d, hd, rfl⟩) l[k].d (by simp)
theorem SpV.f {l F S : List DV} {k : Nat} (h : SpV (l.take k) F S) (hs : At.SrtD (l.map DV.d)) (hk : k < l.length) : SpV (l.take (k + 1)) (F ++ [l[k]]) S := by
  have h1 : l.take (k + 1) = l.take k ++ [l[k]] := List.take_succ_eq_append_getElem hk
  rw [h1]
  refine ⟨List.Sublist.append h.fs (List.Sublist.refl _), h.ss.trans (List.sublist_append_left _ _), fun d hd => ?_, fun d hd e he => ?_⟩
  · rcases List.mem_append.1 hd with hd | hd
    · exact (h.all d hd).imp (fun h => List.mem_append.2 (.inl h)) id
    · exact .inl (List.mem_append.2 (.inr hd))
  · rcases List.mem_append.1 hd with hd | hd
    · exact h.one d hd e he
    · rw [List.mem_singleton.1 hd]
      exact (At.lt_ne (take_lt hs hk e (h.ss.subset he))).symm
theorem SpV.s {l F S : List DV} {k : Nat} (h : SpV (l.take k) F S) (hs : At.SrtD (l.map DV.d)) (hk : k < l.length) : SpV (l.take (k + 1)) F (S ++ [l[k]]) := by
  have h1 : l.take (k + 1) = l.take k ++ [l[k]] := List.take_succ_eq_append_getElem hk
  rw [h1]
  refine ⟨h.fs.trans (List.sublist_append_left _ _), List.Sublist.append h.ss (List.Sublist.refl _), fun d hd => ?_, fun d hd e he => ?_⟩
  · rcases List.mem_append.1 hd with hd | hd
    · exact (h.all d hd).imp id (fun h => List.mem_append.2 (.inl h))
    · exact .inr (List.mem_append.2 (.inr hd))
  · rcases List.mem_append.1 he with he | he
    · exact h.one d hd e he
    · rw [List.mem_singleton.1 he]
      exact At.lt_ne (take_lt hs hk d (h.fs.subset hd))
theorem SpV.split {l F S : List DV} {L : List At.Dl} (h : SpV l F S) (hL : l.map DV.d = L) : At.Split L (F.map DV.d) (S.map DV.d) := by
  subst hL
  refine ⟨h.fs.map _, h.ss.map _, fun d hd => ?_, fun d hd e he => ?_⟩
  · obtain ⟨x, hx, rfl⟩ := List.mem_map.1 hd
    exact (h.all x hx).imp (fun h => List.mem_map.2 ⟨x, h, rfl⟩) (fun h => List.mem_map.2 ⟨x, h, rfl⟩)
  · obtain ⟨x, hx, rfl⟩ := List.mem_map.1 hd
    obtain ⟨y, hy, rfl⟩ := List.mem_map.1 he
    exact h.one x hx y hy
theorem dvs_one (x : DV) : dvsC [x] = dvC x := by unfold dvsC; rw [List.flatMap_singleton]
/-- two own lists of differences, side by side -/
structure Two (w : World) (B : Nat) (v : Value) (F : List DV) (u : Value) (S : List DV) : Prop where
  f : w.ownsRow B 45 15 v F.length (dvsC F)
  s : w.ownsRow B 45 15 u S.length (dvsC S)
  ne : ∀ g, v.ownBlock = some g → u.ownBlock ≠ some g
theorem two_nil (w : World) : Two w w.heap.size (.slice none 0 0) [] (.slice none 0 0) [] := ⟨World.ownsRow_nil _ _ _ _, World.ownsRow_nil _ _ _ _, fun g h => by cases h⟩
theorem Two.swap {w : World} {B : Nat} {v u : Value} {F S : List DV} (h : Two w B v F u S) : Two w B u S v F := ⟨h.s, h.f, fun g hg e => h.ne g e hg⟩
/-- one of both grows -/
theorem Two.grow {w w' : World} {B : Nat} {v u v' : Value} {F S : List DV} {x : DV} {n : Nat} {X : List Value} {g' : Nat} (h : Two w B v F u S) (hr : w'.ownsRow B 45 15 v' n X) (hg : w.grownBy w' v.ownBlock) (hb : v'.ownBlock = some g') (hn : v.ownBlock = some g' ∨ w.heap.size ≤ g') (en : n = (F ++ [x]).length) (eX : X = dvsC (F ++ [x])) : Two w' B v' (F ++ [x]) u S := by
  subst en eX
  refine ⟨hr, ?_, fun g hg' => ?_⟩
  · refine h.s.kept hg ?_
    rcases h.s.2 with ⟨rfl, _⟩ | ⟨g, cap, cur, rfl, _, hgb, _⟩
    · exact .inl rfl
    · exact .inr fun e' => h.ne g e'.symm rfl
  · rw [hb] at hg'
    obtain rfl : g' = g := Option.some.inj hg'
    rcases hn with hn | hn
    · exact h.ne _ hn
    · intro e
      have := (h.s.lt _ e).2
      omega
set_option maxHeartbeats 8000000 in
set_option maxRecDepth 100000 in
theorem walk_AtlasPatches (A : Option Addr) (c : Nat) (l : List RO) (B : Option Addr) (d : Nat) (l' : List RO) (ch : Int) (w : World) (hc : l.length ≤ c) (hcm : c ≤ 9223372036854775807) (h : Mw w A l) (hd : l'.length ≤ d) (hdm : d ≤ 9223372036854775807) (h2 : Mw w B l') (hch : (Lit.int .u32 ch).wf = true) (ht : Tab w) :
    Calls Tryz.prog 4 #[.agg #[.slice A l.length c], (.agg #[.slice B l'.length d]), .int .u32 ch] w fun e w' => e = .returned (.bool true) ∧ Below w.heap.size w w' := by
  have HM := Lib.hid h
  have HM2 := Lib.hid h2
  have HT := Lib.hid ht
  obtain ⟨n, hn⟩ : ∃ n, n = l.length := ⟨_, rfl⟩
  obtain ⟨m, hm⟩ : ∃ m, m = l'.length := ⟨_, rfl⟩
  have HN := Lib.hid hn
  have HN2 := Lib.hid hm
  rw [← hn] at hc ⊢
  rw [← hm] at hd ⊢
  obtain ⟨w1, hw1⟩ : ∃ w1, w1 = (w.alloc (.cells #[.slice A n c] 24)).alloc (.cells #[.slice B m d] 24) := ⟨_, rfl⟩
  have X0 : w1.heap[w.heap.size]? = some (.cells #[.slice A n c] 24 (0, 0)) := by rw [hw1]; exact (alloc_old _ _ (by simp)).trans (heap_alloc_new w _)
  have X1 : w1.heap[w.heap.size + 1]? = some (.cells #[.slice B m d] 24 (0, 0)) := by rw [hw1]; exact alloc_new' _ _ _ (by simp)
  have BX : Below w.heap.size w w1 := by rw [hw1]; exact ((Below.refl _ _).alloc (Nat.le_refl _) _).alloc (by simp) _
  have z1 : w.heap.size + 1 < w1.heap.size := by rw [hw1]; simp
  have ENV : Hid (∀ u, Below w1.heap.size w1 u → u.cell? ⟨w.heap.size, 0, none⟩ = some (.slice A n c) ∧ u.cell? ⟨w.heap.size + 1, 0, none⟩ = some (.slice B m d) ∧ Mw u A l ∧ Mw u B l' ∧ Below w.heap.size w u) := Lib.hid (fun u hu => ⟨by have := cell_of_row u w.heap.size 0 _ _ _ ((hu.block _ (by omega)).trans X0); simpa using this, by have := cell_of_row u (w.heap.size + 1) 0 _ _ _ ((hu.block _ z1).trans X1); simpa using this, HM.out.below (BX.trans (Below.mono hu BX.size)), HM2.out.below (BX.trans (Below.mono hu BX.size)), BX.trans (Below.mono hu BX.size)⟩)
  have HD := Lib.hid (head_any w1 (HT.out.keep BX))
  clear h h2 ht hn hm X0 X1
  go_enter Tryz.func4, Tryz.ntmps4
  go_wp2_with fail
  rw [← hw1]
  clear hw1 BX
  refine HD.out.mono ?_
  rintro e u1 ⟨rfl, b1⟩
  obtain ⟨k0, k1, m1, m2, bw1⟩ := ENV.out u1 b1
  obtain ⟨x1, hx1'⟩ : ∃ x1, x1 = u1.alloc (.cells #[.slice A n c, .slice B m d] 24) := ⟨_, rfl⟩
  have bx1 : Below u1.heap.size u1 x1 := by rw [hx1']; exact (Below.refl _ _).alloc (Nat.le_refl _) _
  have FW := Lib.hid (few_any (some ⟨u1.heap.size, 0, none⟩) 2 2 [⟨A, c, l⟩, ⟨B, d, l'⟩] x1 rfl (by decide) (by rw [hx1', HN.out, HN2.out]; exact Rd.of_row (heap_alloc_new u1 _) (List.prefix_refl _)) (fun y hy => by
    rcases List.mem_cons.1 hy with rfl | hy
    · exact ⟨m1.below bx1, by show l.length ≤ _; rw [← HN.out]; omega⟩
    · rw [List.mem_singleton.1 hy]; exact ⟨m2.below bx1, by show l'.length ≤ _; rw [← HN2.out]; omega⟩))
  rw [few_two] at FW
  have B1 := Lib.hid (b1.trans (Below.mono bx1 b1.size))
  clear m1 m2 bw1 b1 HD
  go_wp2_with fail
  rw [← hx1']
  clear hx1' bx1 k0 k1
  refine FW.out.mono ?_
  rintro e u2 ⟨rfl, b2⟩
  have B2 := Lib.hid (B1.out.trans (Below.mono b2 B1.out.size))
  obtain ⟨k0, k1, m1, m2, bw2⟩ := ENV.out u2 B2.out
  have BW2 := Lib.hid bw2
  have M1 := Lib.hid m1
  have M2 := Lib.hid m2
  clear b2 B1 FW bw2 m1 m2
  cases hf : (fewM (cts l) && fewM (cts l'))
  · go_wp2_with fail
    go_ret
    exact ⟨rfl, BW2.out⟩
  · rw [Bool.and_eq_true] at hf
    have MS := Lib.hid (M1.out.ms hf.1)
    have MT := Lib.hid (M2.out.ms hf.2)
    have hl : n ≤ 30 := by rw [HN.out]; exact few_len2 hf.1
    have hl2 : m ≤ 30 := by rw [HN2.out]; exact few_len2 hf.2
    have VD := Lib.hid (avalid_any A c l n u2 HN.out MS.out)
    clear hf
    go_wp2_with fail
    refine VD.out.mono ?_
    rintro e u3 ⟨rfl, b3⟩
    have B3 := Lib.hid (B2.out.trans (Below.mono b3 B2.out.size))
    have MS := Lib.hid (MS.out.below b3)
    have MT := Lib.hid (MT.out.below b3)
    obtain ⟨k0, k1, -, -, bw3⟩ := ENV.out u3 B3.out
    have BW3 := Lib.hid bw3
    clear b3 B2 VD bw3 M1 M2 BW2
    cases hV : At.validM (cts l)
    · go_wp2_with fail
      go_ret
      exact ⟨rfl, BW3.out⟩
    · have HV := Lib.hid hV
      have VE := Lib.hid (avalid_any B d l' m u3 HN2.out MT.out)
      clear hV
      go_wp2_with fail
      refine VE.out.mono ?_
      rintro e u4 ⟨rfl, b4⟩
      have B4 := Lib.hid (B3.out.trans (Below.mono b4 B3.out.size))
      have MS := Lib.hid (MS.out.below b4)
      have MT := Lib.hid (MT.out.below b4)
      obtain ⟨k0, k1, -, -, bw4⟩ := ENV.out u4 B4.out
      have BW4 := Lib.hid bw4
      clear b4 B3 VE bw4 BW3
      cases hV2 : At.validM (cts l')
      · go_wp2_with fail
        go_ret
        exact ⟨rfl, BW4.out⟩
      · have HV2 := Lib.hid hV2
        clear hV2
        have E2 : Hid (∀ u, Below u4.heap.size u4 u → u.cell? ⟨w.heap.size, 0, none⟩ = some (.slice A n c) ∧ u.cell? ⟨w.heap.size + 1, 0, none⟩ = some (.slice B m d) ∧ Ms u A l ∧ Ms u B l' ∧ Below w.heap.size w u) := Lib.hid (fun u hu => by
          obtain ⟨h1, h2, -, -, h3⟩ := ENV.out u (B4.out.trans (Below.mono hu B4.out.size))
          exact ⟨h1, h2, MS.out.below hu, MT.out.below hu, h3⟩)
        go_wp2_with fail
        refine (hdiff HN.out HN2.out (by omega) (by omega) hc hd MS.out MT.out HV.out HV2.out).mono ?_
        rintro e u5 ⟨A6, c6, R6, rfl, D6, E6, b5⟩
        have B5 := Lib.hid b5
        have D6 := Lib.hid D6
        have E6 := Lib.hid E6
        have SD : Hid (At.SrtD (R6.map DV.d)) := Lib.hid (by rw [E6.out]; exact At.srt_diff (At.validM_iff.1 HV.out).1 (At.validM_iff.1 HV2.out).1)
        have SP0 : Hid (SpV (R6.take 0) [] []) := Lib.hid (spV_nil R6)
        obtain ⟨p, hp⟩ : ∃ p, p = R6.length := ⟨_, rfl⟩
        have HP := Lib.hid hp
        have hp2 : p ≤ 60 := by
          have h1 := diffG_len (cts l) (cts l')
          have h2 : R6.length = (At.diffG (cts l) (cts l')).length := by rw [← E6.out]; simp
          rw [cts_len, cts_len, ← HN.out, ← HN2.out] at h1; omega
        rw [← hp]
        have O1 : Hid (Two u5 u5.heap.size (.slice none 0 0) [] (.slice none 0 0) []) := Lib.hid (two_nil u5)
        have BB : Hid (Below u5.heap.size u5 u5) := Lib.hid (Below.refl _ _)
        clear b5 hp k0 k1
        go_upto_region 7 with fail
        go_loopw [9, 10, 11] (fun s9 s10 s11 wr => ∃ (k : Nat) (F S : List DV), k ≤ p ∧ s11 = .int .i64 (k : Int) ∧ Hid (SpV (R6.take k) F S) ∧ Hid (Two wr u5.heap.size s9 F s10 S) ∧ Hid (Below u5.heap.size u5 wr)) (fun _ _ i _ => p - (intOf i).toNat)
        case atStart => exact ⟨0, [], [], Nat.zero_le _, rfl, SP0, O1, BB⟩
        case round =>
          clear SP0 O1 BB
          obtain ⟨k, F, S, hk, rfl, SP, TW, BL⟩ := hrel
          by_cases hlt : k < p
          · have hkl : k < R6.length := by rw [← HP.out]; exact hlt
            have d1 : (k : Int) < (p : Int) := by omega
            have d2 : (0 : Int) ≤ (k : Int) := by omega
            obtain ⟨b, off, rfl, hb, hcell⟩ := dvs_at (D6.out.rd.below BL.out) hkl
            have DI := (D6.out.is R6[k] (List.getElem_mem hkl)).1
            have SF := Lib.hid (SP.out.f SD.out hkl)
            have SS := Lib.hid (SP.out.s SD.out hkl)
            have lf : F.length ≤ k := by have := SP.out.fs.length_le; simp at this; omega
            have ls : S.length ≤ k := by have := SP.out.ss.length_le; simp at this; omega
            generalize R6[k] = x at *
            obtain ⟨A1, q1, v1, -⟩ := DI.o.rs
            obtain ⟨A2, q2, v2, -⟩ := DI.o.ts
            obtain ⟨A3, q3, v3, -⟩ := DI.n.rs
            obtain ⟨A4, q4, v4, -⟩ := DI.n.ts
            have eC := dvC_eq v1 v2 v3 v4
            rw [eC] at hcell
            unfold dlL at hcell eC
            have EC := Lib.hid (show dvsC [x] = _ from (dvs_one x).trans eC)
            have c0 := hcell 0 _ rfl
            have c1 := hcell 1 _ rfl
            have c2 := hcell 2 _ rfl
            have c3 := hcell 3 _ rfl
            have c4 := hcell 4 _ rfl
            have c5 := hcell 5 _ rfl
            have c6 := hcell 6 _ rfl
            have c7 := hcell 7 _ rfl
            have c8 := hcell 8 _ rfl
            have c9 := hcell 9 _ rfl
            have c10 := hcell 10 _ rfl
            have c11 := hcell 11 _ rfl
            have c12 := hcell 12 _ rfl
            have c13 := hcell 13 _ rfl
            have c14 := hcell 14 _ rfl
            simp only [Nat.add_zero] at c0
            have bz := BL.out.size
            clear hcell DI v1 v2 v3 v4 eC SP
            go_wp2_with (first | (at_builtin; refine wpList_appN rfl (.tmp 55) (.tmp 60) 28 rfl Tryz.underlying28 info_dl rfl (by decide) u5.heap.size _ F.length (dvsC F) _ 1 (by decide) rfl (by intro y hy; simp at hy; rcases hy with rfl | rfl | rfl | rfl | rfl | rfl | rfl | rfl | rfl | rfl | rfl | rfl | rfl | rfl | rfl <;> rfl) rfl rfl rfl TW.out.f bz (by omega) (by omega) ?_; intro g7 c7 w7 ho7 hg7 hl7 hb7; have TG := Lib.hid (TW.out.grow (x := x) ho7 hg7 rfl hl7 (by simp) (by rw [dvsC_app, EC.out])); have BG := Lib.hid (BL.out.trans hb7); clear ho7 hg7 hl7 hb7) | (at_builtin; refine wpList_appN rfl (.tmp 62) (.tmp 67) 28 rfl Tryz.underlying28 info_dl rfl (by decide) u5.heap.size _ S.length (dvsC S) _ 1 (by decide) rfl (by intro y hy; simp at hy; rcases hy with rfl | rfl | rfl | rfl | rfl | rfl | rfl | rfl | rfl | rfl | rfl | rfl | rfl | rfl | rfl <;> rfl) rfl rfl rfl TW.out.swap.f bz (by omega) (by omega) ?_; intro g7 c7 w7 ho7 hg7 hl7 hb7; have TG := Lib.hid (TW.out.swap.grow (x := x) ho7 hg7 rfl hl7 (by simp) (by rw [dvsC_app, EC.out])); have BG := Lib.hid (BL.out.trans hb7); clear ho7 hg7 hl7 hb7))
            all_goals first
              | exact ⟨⟨k + 1, F ++ [x], S, by omega, by go_num, SF, TG, BG⟩, by simp [intOf]; omega⟩
              | exact ⟨⟨k + 1, F, S ++ [x], by omega, by go_num, SS, Lib.hid TG.out.swap, BG⟩, by simp [intOf]; omega⟩
          · have d1 : ¬ (k : Int) < (p : Int) := by omega
            have SP : Hid (SpV R6 F S) := Lib.hid (by have := SP.out; rwa [List.take_of_length_le (by rw [← HP.out]; omega)] at this)
            have SPL := Lib.hid (SP.out.split E6.out)
            obtain ⟨X, x1, x2, x3, x4, x5⟩ := At.patch_split HV.out HV2.out SPL.out (by rw [cts_len, cts_len, ← HN.out, ← HN2.out]; omega)
            obtain ⟨Y, y1, y2, y3, y4, -⟩ := At.patch_split HV.out HV2.out SPL.out.symm (by rw [cts_len, cts_len, ← HN.out, ← HN2.out]; omega)
            rw [cts_len, cts_len, ← HN.out, ← HN2.out] at x3 y3
            obtain ⟨A9, c9, ev9, r9⟩ := own_sl TW.out.f
            obtain ⟨A8, c8, ev8, r8⟩ := own_sl TW.out.s
            subst ev9 ev8
            have DF : Hid (Ds wr A9 F) := Lib.hid ⟨r9, fun d hd => ⟨(D6.out.is d (SP.out.fs.subset hd)).1.below BL.out, (D6.out.is d (SP.out.fs.subset hd)).2⟩, by have := SP.out.fs.length_le; have := HP.out; omega⟩
            have DS : Hid (Ds wr A8 S) := Lib.hid ⟨r8, fun d hd => ⟨(D6.out.is d (SP.out.ss.subset hd)).1.below BL.out, (D6.out.is d (SP.out.ss.subset hd)).2⟩, by have := SP.out.ss.length_le; have := HP.out; omega⟩
            have BW := Lib.hid (B5.out.trans (Below.mono BL.out B5.out.size))
            have fz : Hid ((F.map DV.d = []) ↔ F.length = 0) := Lib.hid (by simp)
            obtain ⟨X1, X2, X4, X5, Y1, Y2, Y4⟩ := (⟨Lib.hid x1, Lib.hid x2, Lib.hid x4, Lib.hid x5, Lib.hid y1, Lib.hid y2, Lib.hid y4⟩ : Hid _ ∧ Hid _ ∧ Hid _ ∧ Hid _ ∧ Hid _ ∧ Hid _ ∧ Hid _)
            obtain ⟨wq, hwq⟩ : ∃ W, W = wr := ⟨_, rfl⟩
            rw [← hwq] at DF DS BW ⊢
            clear hwq x1 x2 x4 x5 y1 y2 y4 SPL SP TW BL r8 r9 D6 SD
            obtain ⟨k0, k1, MS5, MT5, -⟩ := E2.out wq BW.out
            have k0 := k0
            have PP := Lib.hid (hpat (d := c9) HN.out (by omega) hc MS5 DF.out _ 0 X1.out)
            clear MS5 MT5
            go_wp2_with fail
            refine PP.out.mono ?_
            rintro e u12 h12
            obtain ⟨A12, c12, R12, rfl, M12, E12, C12, b12⟩ := mapE_ok h12
            have L12 := Lib.hid (Live.new M12 C12)
            have E12 := Lib.hid E12
            have bb := b12.alloc b12.size (.cells #[.slice A12 R12.length c12] 24)
            have DF := Lib.hid (DF.out.below bb)
            have DS := Lib.hid (DS.out.below bb)
            have BW := Lib.hid (BW.out.trans (Below.mono bb BW.out.size))
            clear M12 C12 b12 bb PP k0 k1
            go_upto_region 13 with fail
            generalize u12.alloc (.cells #[.slice A12 R12.length c12] 24) = w12 at *
            generalize u12.heap.size = g12 at *
            obtain ⟨k0, k1, MS5, MT5, -⟩ := E2.out w12 BW.out
            have k0 := k0
            have kx := L12.out.cell
            have PP := Lib.hid (hpat (d := c8) rfl (by have := cts_length E12.out; omega) L12.out.cap L12.out.ms DS.out _ 0 (by rw [E12.out, X4.out]))
            clear MS5 MT5
            go_wp2_with fail
            refine PP.out.mono ?_
            rintro e u14 h14
            obtain ⟨A14, c14, R14, rfl, M14, E14, C14, b14⟩ := mapE_ok h14
            have L14 := Lib.hid (Live.new M14 C14)
            have E14 := Lib.hid E14
            have bb := b14.alloc b14.size (.cells #[.slice A14 R14.length c14] 24)
            have DF := Lib.hid (DF.out.below bb)
            have DS := Lib.hid (DS.out.below bb)
            have L12 := Lib.hid (L12.out.below bb)
            have BW := Lib.hid (BW.out.trans (Below.mono bb BW.out.size))
            clear M14 C14 b14 bb PP k0 k1
            clear kx
            go_upto_region 14 with fail
            generalize u14.alloc (.cells #[.slice A14 R14.length c14] 24) = w14 at *
            generalize u14.heap.size = g14 at *
            obtain ⟨k0, k1, MS5, MT5, -⟩ := E2.out w14 BW.out
            have k0 := k0
            have PP := Lib.hid (hpat (d := c8) HN.out (by omega) hc MS5 DS.out _ 0 Y1.out)
            clear MS5 MT5
            go_wp2_with fail
            refine PP.out.mono ?_
            rintro e u16 h16
            obtain ⟨A16, c16, R16, rfl, M16, E16, C16, b16⟩ := mapE_ok h16
            have L16 := Lib.hid (Live.new M16 C16)
            have E16 := Lib.hid E16
            have bb := b16.alloc b16.size (.cells #[.slice A16 R16.length c16] 24)
            have DF := Lib.hid (DF.out.below bb)
            have DS := Lib.hid (DS.out.below bb)
            have L12 := Lib.hid (L12.out.below bb)
            have L14 := Lib.hid (L14.out.below bb)
            have BW := Lib.hid (BW.out.trans (Below.mono bb BW.out.size))
            clear M16 C16 b16 bb PP k0 k1
            go_upto_region 15 with fail
            generalize u16.alloc (.cells #[.slice A16 R16.length c16] 24) = w16 at *
            generalize u16.heap.size = g16 at *
            obtain ⟨k0, k1, MS5, MT5, -⟩ := E2.out w16 BW.out
            have k0 := k0
            have kx := L16.out.cell
            have PP := Lib.hid (hpat (d := c9) rfl (by have := cts_length E16.out; omega) L16.out.cap L16.out.ms DF.out _ 0 (by rw [E16.out, Y4.out]))
            clear MS5 MT5
            go_wp2_with fail
            refine PP.out.mono ?_
            rintro e u18 h18
            obtain ⟨A18, c18, R18, rfl, M18, E18, C18, b18⟩ := mapE_ok h18
            have L18 := Lib.hid (Live.new M18 C18)
            have E18 := Lib.hid E18
            have bb := b18.alloc b18.size (.cells #[.slice A18 R18.length c18] 24)
            have DF := Lib.hid (DF.out.below bb)
            have DS := Lib.hid (DS.out.below bb)
            have L12 := Lib.hid (L12.out.below bb)
            have L14 := Lib.hid (L14.out.below bb)
            have L16 := Lib.hid (L16.out.below bb)
            have BW := Lib.hid (BW.out.trans (Below.mono bb BW.out.size))
            clear M18 C18 b18 bb PP k0 k1
            clear kx
            go_upto_region 16 with fail
            generalize u18.alloc (.cells #[.slice A18 R18.length c18] 24) = w18 at *
            generalize u18.heap.size = g18 at *
            have ln := cts_length E12.out
            have NF := Lib.hid (rfl : F.length = F.length)
            rcases Nat.eq_zero_or_pos F.length with h0 | h0
            · skip
              have PP := Lib.hid (hpat (d := c9) rfl (by omega) L12.out.cap L12.out.ms DF.out _ 0 (by rw [E12.out, X5.out, if_pos (fz.out.2 h0)]))
              have kx := L12.out.cell
              obtain ⟨k0, k1, -, -, -⟩ := E2.out w18 BW.out
              rw [h0] at PP ⊢
              clear h0 ln
              go_wp2_with fail
              refine PP.out.mono ?_
              rintro e u20 h20
              obtain ⟨A20, c20, R20, rfl, M20, -, C20, b20⟩ := h20
              have bb := b20.alloc b20.size (.cells #[.slice A20 R20.length c20] 24)
              have L14 := Lib.hid (L14.out.below bb)
              have L18 := Lib.hid (L18.out.below bb)
              have BW := Lib.hid (BW.out.trans (Below.mono bb BW.out.size))
              clear M20 C20 b20 bb PP kx k0 k1
              go_upto_region 17 with fail
              generalize u20.alloc (.cells #[.slice A20 R20.length c20] 24) = w20 at *
              generalize u20.heap.size = g20 at *
              obtain ⟨k0, k1, -, MT, -⟩ := E2.out w20 BW.out
              have k14 := L14.out.cell
              have SA := Lib.hid (rsamem_any A14 B c14 d R14 l' R14.length m w20 rfl HN2.out L14.out.ms MT)
              rw [E14.out, At.sameL_iff.2 rfl] at SA
              clear MT
              go_wp2_with fail
              refine SA.out.mono ?_
              rintro e u21 ⟨rfl, b21⟩
              have L18 := Lib.hid (L18.out.below b21)
              have BW := Lib.hid (BW.out.trans (Below.mono b21 BW.out.size))
              obtain ⟨k0, k1, -, MT, -⟩ := E2.out u21 BW.out
              have k18 := L18.out.cell
              have SB := Lib.hid (rsamem_any A18 B c18 d R18 l' R18.length m u21 rfl HN2.out L18.out.ms MT)
              rw [E18.out, At.sameL_iff.2 rfl] at SB
              clear MT b21 SA k14
              go_wp2_with fail
              refine SB.out.mono ?_
              rintro e u22 ⟨rfl, b22⟩
              have BW := Lib.hid (BW.out.trans (Below.mono b22 BW.out.size))
              obtain ⟨-, -, -, -, bw⟩ := E2.out u22 BW.out
              have BZ := Lib.hid bw
              clear b22 SB bw k0 k1 k18
              go_wp2_with fail
              go_ret
              exact ⟨rfl, BZ.out⟩
            · skip
              have PP := Lib.hid (hpat (d := c9) rfl (by omega) L12.out.cap L12.out.ms DF.out _ 12 (by rw [E12.out, X5.out, if_neg (fun e => by have := fz.out.1 e; omega)]))
              have kx := L12.out.cell
              obtain ⟨k0, k1, -, -, -⟩ := E2.out w18 BW.out
              have q1 : ((F.length : Int) == 0) = false := by simp; intro e; rw [e] at h0; simp at h0
              have q2 : (0 : Int) < (F.length : Int) := by omega
              clear h0 ln
              go_wp2_with fail
              refine PP.out.mono ?_
              rintro e u20 h20
              obtain ⟨A20, c20, R20, rfl, M20, -, C20, b20⟩ := h20
              have bb := b20.alloc b20.size (.cells #[.slice A20 R20.length c20] 24)
              have L14 := Lib.hid (L14.out.below bb)
              have L18 := Lib.hid (L18.out.below bb)
              have BW := Lib.hid (BW.out.trans (Below.mono bb BW.out.size))
              clear M20 C20 b20 bb PP kx k0 k1
              go_upto_region 17 with fail
              generalize u20.alloc (.cells #[.slice A20 R20.length c20] 24) = w20 at *
              generalize u20.heap.size = g20 at *
              obtain ⟨k0, k1, -, MT, -⟩ := E2.out w20 BW.out
              have k14 := L14.out.cell
              have SA := Lib.hid (rsamem_any A14 B c14 d R14 l' R14.length m w20 rfl HN2.out L14.out.ms MT)
              rw [E14.out, At.sameL_iff.2 rfl] at SA
              clear MT
              go_wp2_with fail
              refine SA.out.mono ?_
              rintro e u21 ⟨rfl, b21⟩
              have L18 := Lib.hid (L18.out.below b21)
              have BW := Lib.hid (BW.out.trans (Below.mono b21 BW.out.size))
              obtain ⟨k0, k1, -, MT, -⟩ := E2.out u21 BW.out
              have k18 := L18.out.cell
              have SB := Lib.hid (rsamem_any A18 B c18 d R18 l' R18.length m u21 rfl HN2.out L18.out.ms MT)
              rw [E18.out, At.sameL_iff.2 rfl] at SB
              clear MT b21 SA k14
              go_wp2_with fail
              refine SB.out.mono ?_
              rintro e u22 ⟨rfl, b22⟩
              have BW := Lib.hid (BW.out.trans (Below.mono b22 BW.out.size))
              obtain ⟨-, -, -, -, bw⟩ := E2.out u22 BW.out
              have BZ := Lib.hid bw
              clear b22 SB bw k0 k1 k18
              go_wp2_with fail
              go_ret
              exact ⟨rfl, BZ.out⟩
end Go.Proofs.YtlejeelmlclnkaaGreatDoor
