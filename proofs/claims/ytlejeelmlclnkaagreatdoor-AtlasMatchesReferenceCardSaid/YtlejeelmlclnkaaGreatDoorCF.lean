/- WALKS: object.Digest. -/
import Derived.Test.YtlejeelmlclnkaaGreatDoorCE
import Derived.Test.YtlejeelmlclnkaaGreatDoorQ7
import Derived.Test.YtlejeelmlclnkaaGreatDoorWD
set_option linter.unusedSimpArgs false
set_option linter.unusedVariables false
namespace Go.Proofs.YtlejeelmlclnkaaGreatDoor
open Go.RowKit

def tagsL (l : List (Tx × Tx)) : List Tx := l.flatMap fun t => [t.1, t.2]
def fieldsL (o : At.Ob) : List Tx := [wordF o.kind, o.id, Dg.dec o.x.toNat, Dg.dec o.y.toNat, Dg.dec o.refs.length] ++ o.refs ++ tagsL o.tags
def digestF (o : At.Ob) : Tx := if At.validO o then Dg.sumL (Dg.joined (fieldsL o)) else []
theorem name_len {s : Tx} (h : At.nameB s = true) : s.length ≤ 24 := by
  cases s with
  | nil => simp
  | cons c r =>
    unfold At.nameB at h
    simp only [Bool.and_eq_true, decide_eq_true_eq] at h
    simpa using h.2
theorem tags_valid : ∀ {l : List (Tx × Tx)} {last : Tx}, At.tagsFrom last l = true → ∀ t ∈ l, t.1.length ≤ 24 ∧ t.2.length ≤ 200
  | [], _, _, t, ht => by cases ht
  | a :: l, last, h, t, ht => by
    rw [At.tagsFrom] at h
    simp only [Bool.and_eq_true, decide_eq_true_eq] at h
    rcases List.mem_cons.1 ht with rfl | ht
    · exact ⟨name_len h.1.1.1.1, h.1.2⟩
    · exact tags_valid h.2 t ht
theorem refs_valid {kind : Int} : ∀ {l : List Tx} {last : Tx} {seen : List Tx}, At.refsFrom kind last seen l = true → ∀ s ∈ l, s.length ≤ 24
  | [], _, _, _, s, hs => by cases hs
  | a :: l, last, seen, h, s, hs => by
    rw [At.refsFrom] at h
    simp only [Bool.and_eq_true] at h
    rcases List.mem_cons.1 hs with rfl | hs
    · exact name_len h.1.2
    · exact refs_valid h.2 s hs
theorem wordF_len (k : Int) : (wordF k).length ≤ 5 := by
  unfold wordF
  split
  · decide
  split
  · decide
  split
  · decide
  split
  · decide
  split
  · decide
  · decide
theorem valid_at {o : At.Ob} (h : At.validO o = true) : 0 ≤ o.x ∧ o.x < 1048576 ∧ 0 ≤ o.y ∧ o.y < 1048576 := by
  unfold At.validO at h
  simp only [Bool.and_eq_true] at h
  have hf := h.2
  unfold At.formB At.onB At.zeroAt at hf
  split at hf
  · simp only [Bool.and_eq_true, decide_eq_true_eq] at hf
    exact ⟨hf.2.1.1.1, hf.2.1.1.2, hf.2.1.2, hf.2.2⟩
  · split at hf
    · simp only [Bool.and_eq_true, decide_eq_true_eq] at hf
      obtain ⟨-, h1, h2⟩ := hf
      omega
    · simp only [Bool.and_eq_true, decide_eq_true_eq] at hf
      obtain ⟨h1, h2⟩ := hf
      omega
theorem valid_parts {o : At.Ob} (h : At.validO o = true) : o.id.length ≤ 24 ∧ o.refs.length ≤ 2000 ∧ o.tags.length ≤ 60 ∧ (∀ s ∈ o.refs, s.length ≤ 24) ∧ (∀ t ∈ o.tags, t.1.length ≤ 24 ∧ t.2.length ≤ 200) := by
  unfold At.validO At.tagsB at h
  simp only [Bool.and_eq_true, decide_eq_true_eq] at h
  obtain ⟨⟨⟨⟨⟨⟨-, h2⟩, h3, h3'⟩, -⟩, h5⟩, h6⟩, -⟩ := h
  exact ⟨name_len h2, h5, h3', refs_valid h6, tags_valid h3⟩
theorem tagsL_len (l : List (Tx × Tx)) : (tagsL l).length = l.length * 2 := by
  unfold tagsL
  induction l with
  | nil => rfl
  | cons a l ih => rw [List.flatMap_cons, List.length_append, ih]; simp; omega
theorem fields_sz {o : At.Ob} (h : At.validO o = true) : (∀ s ∈ fieldsL o, s.length ≤ 300) ∧ (fieldsL o).length ≤ 2200 := by
  obtain ⟨h1, h2, h3, h4, h5⟩ := valid_parts h
  obtain ⟨p1, p2, p3, p4⟩ := valid_at h
  refine ⟨fun s hs => ?_, ?_⟩
  · unfold fieldsL at hs
    simp only [List.mem_append, List.mem_cons, List.not_mem_nil, or_false] at hs
    rcases hs with ((rfl | rfl | rfl | rfl | rfl) | hs) | hs
    · have := wordF_len o.kind; omega
    · omega
    · have := dec_len 7 o.x.toNat (by omega) (by decide); omega
    · have := dec_len 7 o.y.toNat (by omega) (by decide); omega
    · have := dec_len 4 o.refs.length (by omega) (by decide); omega
    · have := h4 s hs; omega
    · unfold tagsL at hs
      obtain ⟨t, ht, hst⟩ := List.mem_flatMap.1 hs
      have := h5 t ht
      simp only [List.mem_cons, List.not_mem_nil, or_false] at hst
      rcases hst with rfl | rfl <;> omega
  · unfold fieldsL
    simp only [List.length_append, tagsL_len, List.length_cons, List.length_nil]
    omega
theorem strsC_app (a b : List Tx) : strsC (a ++ b) = strsC a ++ strsC b := by unfold strsC; rw [List.map_append]
theorem strsC_len (a : List Tx) : (strsC a).length = a.length := by simp [strsC]
theorem strs_one (l : List Tx) : ∀ u ∈ strsC l, u.oneCell' = true := by
  intro u hu
  unfold strsC at hu
  obtain ⟨s, -, rfl⟩ := List.mem_map.1 hu
  rfl
theorem dlist_any (A : Option Addr) (n c : Nat) (L : List Tx) (w : World) (hn : n = L.length) (hlen : L.length ≤ 3000) (hs : ∀ s ∈ L, s.length ≤ 300) (ht : Tab w) (h : Rd w A (strsC L)) :
    Calls Tryz.prog 56 #[.slice A n c] w fun e w' => e = .returned (.string (mkB (Dg.sumL (Dg.joined L)))) ∧ Below w.heap.size w w' := by
  have hb : bys (L.map mkB) = L := by
    unfold bys
    rw [List.map_map]
    conv => rhs; rw [← List.map_id L]
    exact List.map_congr_left fun s _ => mkB_list s
  have := list_any A n c (L.map mkB) w (by rw [List.length_map]; exact hn) (by rw [List.length_map]; exact hlen) (fun s hs' => by
    obtain ⟨t, ht, rfl⟩ := List.mem_map.1 hs'
    rw [mkB_len]; exact hs t ht) ht (by rw [List.map_map]; exact h)
  rw [hb] at this
  exact this
set_option maxHeartbeats 8000000 in
set_option maxRecDepth 100000 in
theorem odigest_any (o : RO) (w : World) (h : ObIs w o) (hs : ObSz o.c) (hr : o.c.refs.length ≤ 100000) (ht : Tab w) :
    Calls Tryz.prog 55 #[roA o] w fun e w' => e = .returned (.string (mkB (digestF o.c))) ∧ Below w.heap.size w w' := by
  obtain ⟨A1, c1, v1, r1⟩ := h.rs
  obtain ⟨A2, c2, v2, r2⟩ := h.ts
  obtain ⟨W, hW⟩ : ∃ W, W = w.alloc (.cells #[.string (mkB o.c.id), .int .i64 o.c.kind, .int .i64 o.c.x, .int .i64 o.c.y, .slice A1 o.c.refs.length c1, .slice A2 o.c.tags.length c2] 43) := ⟨_, rfl⟩
  have HX : W.heap[w.heap.size]? = some (.cells #[.string (mkB o.c.id), .int .i64 o.c.kind, .int .i64 o.c.x, .int .i64 o.c.y, .slice A1 o.c.refs.length c1, .slice A2 o.c.tags.length c2] 43 (0, 0)) := by rw [hW]; exact heap_alloc_new w _
  have BW : Hid (Below w.heap.size w W) := Lib.hid (by rw [hW]; exact (Below.refl _ _).alloc (Nat.le_refl _) _)
  have WZ : W.heap.size = w.heap.size + 1 := by rw [hW]; simp
  have CF : Hid (∀ u, Below W.heap.size W u → u.cell? ⟨w.heap.size, 0, none⟩ = some (.string (mkB o.c.id)) ∧ u.cell? ⟨w.heap.size, 1, none⟩ = some (.int .i64 o.c.kind) ∧ u.cell? ⟨w.heap.size, 2, none⟩ = some (.int .i64 o.c.x) ∧ u.cell? ⟨w.heap.size, 3, none⟩ = some (.int .i64 o.c.y) ∧ u.cell? ⟨w.heap.size, 4, none⟩ = some (.slice A1 o.c.refs.length c1) ∧ u.cell? ⟨w.heap.size, 5, none⟩ = some (.slice A2 o.c.tags.length c2)) := Lib.hid (fun u hu => by
    have h0 := (hu.block w.heap.size (by omega)).trans HX
    exact ⟨cell_of_row u _ 0 _ _ _ h0, cell_of_row u _ 1 _ _ _ h0, cell_of_row u _ 2 _ _ _ h0, cell_of_row u _ 3 _ _ _ h0, cell_of_row u _ 4 _ _ _ h0, cell_of_row u _ 5 _ _ _ h0⟩)
  obtain ⟨k0, k1, k2, k3, k4, k5⟩ := CF.out W (Below.refl _ _)
  have VD := Lib.hid (valid_any o W (h.below BW.out) hs hr)
  have R1 := Lib.hid r1
  have R2 := Lib.hid r2
  have HT := Lib.hid ht
  have DD : Hid (digestF o.c = if At.validO o.c then Dg.sumL (Dg.joined (fieldsL o.c)) else []) := Lib.hid rfl
  have te := mkB_tl []
  have em : (ByteArray.mk #[]) = mkB [] := rfl
  unfold roA at VD ⊢
  rw [v1, v2] at VD ⊢
  generalize digestF o.c = R at *
  clear HX r1 r2 hs v1 v2 h ht
  go_enter Tryz.func55, Tryz.ntmps55
  go_upto_region 1 with fail
  rw [← hW]
  clear hW
  go_wp2_with fail
  refine VD.out.mono ?_
  rintro e u1 ⟨rfl, b1⟩
  have B1 := Lib.hid (show Below W.heap.size W u1 from b1)
  have BL1 := Lib.hid (BW.out.trans (Below.mono b1 BW.out.size))
  clear b1 VD k0 k1 k2 k3 k4 k5
  cases hV : At.validO o.c
  · have PE : Hid (R = []) := Lib.hid (by rw [DD.out, hV]; rfl)
    go_wp2_with fail
    go_ret
    exact ⟨by rw [PE.out]; rfl, BL1.out⟩
  · have PE : Hid (R = Dg.sumL (Dg.joined (fieldsL o.c))) := Lib.hid (by rw [DD.out, hV]; rfl)
    have FS := Lib.hid (fields_sz hV)
    have FL : Hid (fieldsL o.c = [wordF o.c.kind, o.c.id, Dg.dec o.c.x.toNat, Dg.dec o.c.y.toNat, Dg.dec o.c.refs.length] ++ o.c.refs ++ tagsL o.c.tags) := Lib.hid rfl
    obtain ⟨p1, p2, p3, p4⟩ := valid_at hV
    obtain ⟨-, hr2, ht2, -, -⟩ := valid_parts hV
    obtain ⟨xn, hxn⟩ : ∃ xn : Nat, o.c.x = (xn : Int) := ⟨o.c.x.toNat, by omega⟩
    obtain ⟨yn, hyn⟩ : ∃ yn : Nat, o.c.y = (yn : Int) := ⟨o.c.y.toNat, by omega⟩
    rw [hxn, hyn] at FL CF
    rw [Int.toNat_natCast, Int.toNat_natCast] at FL
    obtain ⟨rn, hrn⟩ : ∃ rn, o.c.refs.length = rn := ⟨_, rfl⟩
    obtain ⟨tn, htn⟩ : ∃ tn, o.c.tags.length = tn := ⟨_, rfl⟩
    have RN := Lib.hid hrn
    have TN := Lib.hid htn
    simp only [hrn] at FL CF hr2 hr
    simp only [htn] at CF ht2
    have KF : ∀ u, OldB u1 u → u.cell? ⟨w.heap.size, 0, none⟩ = some (.string (mkB o.c.id)) ∧ u.cell? ⟨w.heap.size, 1, none⟩ = some (.int .i64 o.c.kind) ∧ u.cell? ⟨w.heap.size, 2, none⟩ = some (.int .i64 (xn : Int)) ∧ u.cell? ⟨w.heap.size, 3, none⟩ = some (.int .i64 (yn : Int)) ∧ u.cell? ⟨w.heap.size, 4, none⟩ = some (.slice A1 rn c1) ∧ u.cell? ⟨w.heap.size, 5, none⟩ = some (.slice A2 tn c2) := fun u hu => CF.out u (B1.out.trans (Below.mono hu B1.out.size))
    have K0 := fun u hu => (KF u hu).1
    have K1 := fun u hu => (KF u hu).2.1
    have K2 := fun u hu => (KF u hu).2.2.1
    have K3 := fun u hu => (KF u hu).2.2.2.1
    have K4 := fun u hu => (KF u hu).2.2.2.2.1
    have WD : Hid (∀ u, Calls Tryz.prog 77 #[.int .i64 o.c.kind] u fun e w' => e = .returned (.string (mkB (wordF o.c.kind))) ∧ Below u.heap.size u w') := Lib.hid (fun u => word_any _ u)
    have IT : Hid (∀ (k : Nat) u, k ≤ 9223372036854775807 → OldB u1 u → Calls Tryz.prog 92 #[.int .i64 (k : Int)] u fun e w' => e = .returned (.string (mkB (Dg.dec k))) ∧ Below u.heap.size u w') := Lib.hid (fun k u hk hu => itoa_any k u hk (HT.out.keep (BL1.out.trans (Below.mono hu BL1.out.size))))
    have hx3 : xn ≤ 9223372036854775807 := by omega
    have hy3 : yn ≤ 9223372036854775807 := by omega
    have hr3 : rn ≤ 9223372036854775807 := by omega
    clear p1 p2 p3 p4 hxn hyn hrn htn KF DD
    go_upto_region 3 with fail
    (refine wp_region_noPanic ?_; refine wp_region_held_drew (S := (OldB u1)) (by kernel_rfl) ?_ (fun hHeld => ?_); exact Below.drew (Below.refl _ _))
    (refine tkW 0 ?_; try simp only [gmS])
    (refine tkW 1 ?_; try simp only [gmS])
    (refine tkW 3 ?_; try simp only [gmS])
    (refine tkW 4 ?_; try simp only [gmS])
    (refine tkW 5 ?_; try simp only [gmS])
    (refine tkW 6 ?_; try simp only [gmS])
    (refine tkW 7 ?_; try simp only [gmS])
    (refine tkW 9 ?_; try simp only [gmS])
    (refine tkW 10 ?_; try simp only [gmS])
    (refine tkW 11 ?_; try simp only [gmS])
    (refine tkW 13 ?_; try simp only [gmS])
    (refine tkW 14 ?_; try simp only [gmS])
    (refine tkW 15 ?_; try simp only [gmS])
    (refine rdW 2 (fun K hK => ?_); go_simp)
    refine (WD.out _).mono ?_
    rintro e x1 ⟨rfl, b1⟩
    (refine hK.out _ _ (OldB.then hHeld b1) (fun hHeld2 => ?_); clear hK K hHeld; have hHeld := hHeld2; clear hHeld2; try simp only [gmS])
    (refine rdW 8 (fun K hK => ?_); go_simp)
    refine (IT.out xn _ hx3 hHeld).mono ?_
    rintro e x2 ⟨rfl, b2⟩
    (refine hK.out _ _ (OldB.then hHeld b2) (fun hHeld2 => ?_); clear hK K hHeld; have hHeld := hHeld2; clear hHeld2; try simp only [gmS])
    (refine rdW 12 (fun K hK => ?_); go_simp)
    refine (IT.out yn _ hy3 hHeld).mono ?_
    rintro e x3 ⟨rfl, b3⟩
    (refine hK.out _ _ (OldB.then hHeld b3) (fun hHeld2 => ?_); clear hK K hHeld; have hHeld := hHeld2; clear hHeld2; try simp only [gmS])
    (refine rdW 16 (fun K hK => ?_); go_simp)
    refine (IT.out rn _ hr3 hHeld).mono ?_
    rintro e x4 ⟨rfl, b4⟩
    (refine hK.out _ _ (OldB.then hHeld b4) (fun hHeld2 => ?_); clear hK K hHeld; have hHeld := hHeld2; clear hHeld2; try simp only [gmS])
    (refine rdW 17 (fun K hK => ?_); go_simp)
    have hb5 := OldB.then hHeld ((Below.refl x4.heap.size x4).alloc (Nat.le_refl _) (.cells #[.string (mkB (wordF o.c.kind)), .string (mkB o.c.id), .string (mkB (Dg.dec xn)), .string (mkB (Dg.dec yn)), .string (mkB (Dg.dec rn))] 9))
    have OL := Lib.hid (World.ownsRow_lit (base := u1.heap.size) (e := 9) (size := 1) x4 #[.string (mkB (wordF o.c.kind)), .string (mkB o.c.id), .string (mkB (Dg.dec xn)), .string (mkB (Dg.dec yn)), .string (mkB (Dg.dec rn))] 5 (Below.size hHeld) (by simp [maxLen]) rfl)
    (refine hK.out _ _ hb5 (fun hHeld2 => ?_); clear hK K hHeld; have hHeld := hHeld2; clear hHeld2; try simp only [gmS])
    (refine tkW 18 ?_; try simp only [gmS])
    have HH := Lib.hid hHeld
    (refine wpAnyH_done (by kernel_rfl) ?_ _; refine NoPanic.normal ?_)
    clear hHeld hb5 b1 b2 b3 b4 WD IT K0 K1 K2 K3 K4
    have HB5 := Lib.hid (B1.out.trans (Below.mono HH.out B1.out.size))
    have OW5 : Hid ((x4.alloc (.cells #[.string (mkB (wordF o.c.kind)), .string (mkB o.c.id), .string (mkB (Dg.dec xn)), .string (mkB (Dg.dec yn)), .string (mkB (Dg.dec rn))] 9)).ownsRow u1.heap.size 9 1 (.slice (some ⟨x4.heap.size, 0, none⟩) 5 5) 5 (strsC [wordF o.c.kind, o.c.id, Dg.dec xn, Dg.dec yn, Dg.dec rn])) := Lib.hid OL.out
    obtain ⟨F5, hF5⟩ : ∃ F5, F5 = [wordF o.c.kind, o.c.id, Dg.dec xn, Dg.dec yn, Dg.dec rn] := ⟨_, rfl⟩
    rw [← hF5] at OW5 FL
    have F5L : Hid (F5.length = 5) := Lib.hid (by rw [hF5]; rfl)
    clear OL hF5
    generalize x4.alloc (.cells #[.string (mkB (wordF o.c.kind)), .string (mkB o.c.id), .string (mkB (Dg.dec xn)), .string (mkB (Dg.dec yn)), .string (mkB (Dg.dec rn))] 9) = x5 at *
    obtain ⟨k0, k1, k2, k3, k4, k5⟩ := CF.out x5 HB5.out
    have HW5 := Lib.hid (BW.out.trans (Below.mono HB5.out BW.out.size))
    have RF5 := Lib.hid (R1.out.below HW5.out)
    have LR : (strsC o.c.refs).length = rn * 1 := by rw [strsC_len, RN.out]; omega
    have z5 := HH.out.size
    go_upto_region 5 with (at_builtin; refine wpList_appRS rfl (.tmp 27) (.tmp 29) 40 rfl Tryz.underlying40 info_str rfl (by decide) u1.heap.size _ 5 _ A1 rn c1 (strsC o.c.refs) (strs_one _) rfl rfl OW5.out RF5.out LR z5 (by omega) (by omega) ?_; intro v6 w6 hown6 hb6 hg6)
    have HB6 : Hid (Below u1.heap.size u1 w6) := Lib.hid (HH.out.trans hb6)
    have HBW6 := Lib.hid (B1.out.trans (Below.mono HB6.out B1.out.size))
    have OW6 : Hid (w6.ownsRow u1.heap.size 9 1 v6 (5 + rn + 2 * 0) (strsC (F5 ++ o.c.refs ++ tagsL (o.c.tags.take 0)))) := Lib.hid (by
      rw [show tagsL (o.c.tags.take 0) = [] from rfl, List.append_nil, strsC_app]; exact hown6)
    clear hown6 hb6 hg6 k0 k1 k2 k3 k4 k5 OW5 RF5 HB5 HW5 HH
    obtain ⟨k0, k1, k2, k3, k4, k5⟩ := CF.out w6 HBW6.out
    have LEN : Hid (∀ k, k ≤ tn → (F5 ++ o.c.refs ++ tagsL (o.c.tags.take k)).length = 5 + rn + 2 * k) := Lib.hid (fun k hk => by
      rw [List.length_append, List.length_append, tagsL_len, List.length_take, F5L.out, RN.out, TN.out]; omega)
    go_wp2_with fail
    go_loopw [3, 5, 34] (fun s3 s5 s34 wr => ∃ k : Nat, k ≤ tn ∧ s34 = .int .i64 (k : Int) ∧ (∃ p, s5 = p) ∧ Hid (wr.ownsRow u1.heap.size 9 1 s3 (5 + rn + 2 * k) (strsC (F5 ++ o.c.refs ++ tagsL (o.c.tags.take k)))) ∧ Hid (Below u1.heap.size u1 wr)) (fun _ _ i _ => tn - (intOf i).toNat)
    case atStart => exact ⟨0, Nat.zero_le _, rfl, ⟨_, rfl⟩, OW6, HB6⟩
    case round =>
      clear OW6 HB6 HBW6 k0 k1 k2 k3 k4 k5
      obtain ⟨k, hk, rfl, ⟨p5, rfl⟩, OW, BL⟩ := hrel
      have BL2 := Lib.hid (BL1.out.trans (Below.mono BL.out BL1.out.size))
      by_cases hlt : k < tn
      · have hkl : k < o.c.tags.length := by rw [TN.out]; exact hlt
        have d1 : (k : Int) < (tn : Int) := by omega
        have d2 : (0 : Int) ≤ (k : Int) := by omega
        obtain ⟨b, off, rfl, hb, c0, c1⟩ := tags_at (R2.out.below BL2.out) hkl
        have TK : Hid (F5 ++ o.c.refs ++ tagsL (o.c.tags.take (k + 1)) = (F5 ++ o.c.refs ++ tagsL (o.c.tags.take k)) ++ [o.c.tags[k].1, o.c.tags[k].2]) := Lib.hid (by
          rw [List.take_succ_eq_append_getElem hkl]
          unfold tagsL
          rw [List.flatMap_append, ← List.append_assoc]; simp)
        generalize F5 ++ o.c.refs ++ tagsL (o.c.tags.take k) = LK at *
        generalize o.c.tags[k] = t at *
        obtain ⟨ta, tb⟩ := t
        dsimp only at c0 c1 TK
        have bz := BL.out.size
        have OA := Lib.hid (OW.out.alloc (.cells #[.string (mkB ta), .string (mkB tb)] 94))
        clear OW
        go_wp2_with (at_builtin; refine wpList_appN rfl (.tmp 38) (.tmp 43) 40 rfl Tryz.underlying40 info_str rfl (by decide) u1.heap.size _ (5 + rn + 2 * k) (strsC LK) _ 2 (by decide) rfl (by intro y hy; simp at hy; rcases hy with rfl | rfl <;> rfl) rfl rfl (by simp) OA.out (by simp; omega) (by omega) (by omega) ?_; intro g7 c7 w7 ho7 hg7 hl7 hb7)
        refine ⟨⟨k + 1, by omega, by go_num, ⟨_, rfl⟩, ?_, Lib.hid ((BL.out.alloc BL.out.size _).trans hb7)⟩, by simp [intOf]; omega⟩
        rw [TK.out, strsC_app]
        exact Lib.hid ho7
      · have d1 : ¬ (k : Int) < (tn : Int) := by omega
        have TT : Hid (strsC (F5 ++ o.c.refs ++ tagsL (o.c.tags.take k)) = strsC (fieldsL o.c)) := Lib.hid (by rw [FL.out, List.take_of_length_le (by rw [TN.out]; omega)])
        have NN : Hid (5 + rn + 2 * k = (fieldsL o.c).length) := Lib.hid (by
          rw [← LEN.out k hk, FL.out, List.take_of_length_le (by rw [TN.out]; omega)])
        rw [TT.out] at OW
        obtain ⟨A9, c9, hv9, hr9⟩ := own_sl OW.out
        subst hv9
        have DL := Lib.hid (dlist_any A9 (5 + rn + 2 * k) c9 (fieldsL o.c) wr NN.out (by have := FS.out.2; omega) FS.out.1 (HT.out.keep BL2.out) hr9)
        clear hr9 OW
        go_wp2_with fail
        refine DL.out.mono ?_
        rintro e w9 ⟨rfl, b9⟩
        have B9 := Lib.hid (BL2.out.trans (Below.mono b9 BL2.out.size))
        clear b9 DL
        go_wp2_with fail
        go_ret
        exact ⟨by rw [PE.out]; rfl, B9.out⟩
end Go.Proofs.YtlejeelmlclnkaaGreatDoor
