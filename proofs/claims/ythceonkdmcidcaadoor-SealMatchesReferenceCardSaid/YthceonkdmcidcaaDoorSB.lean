/- WALKS: the one-time keys of seals. -/
import Derived.Test.YthceonkdmcidcaaDoorSA
set_option linter.unusedSimpArgs false
set_option linter.unusedVariables false
namespace Go.Proofs.YthceonkdmcidcaaDoor
open Go.RowKit

theorem info_str : (Tryd.prog.info? 9).map (fun i => (i.zero, i.size, i.bytes)) = some (some (.string .empty), 1, 16) := by kernel_rfl
theorem ends_step {s : List UInt8} {i k : Nat} (hk : k < 18) : sv ((Sl.endsF s i).take (k + 1)) = sv ((Sl.endsF s i).take k) ++ [.string (mkB (Sl.chainF 15 (Sl.start s i k)))] := by
  rw [← sv_one, ← sv_app]
  congr 1
  rw [List.take_succ_eq_append_getElem (by rw [Sl.endsF_len]; exact hk)]
  congr 1
  simp [Sl.endsF]
theorem ends_size {s : List UInt8} {i : Nat} : ∀ t ∈ Sl.endsF s i, t.length ≤ 300 := by
  intro t ht
  obtain ⟨k, _, rfl⟩ := List.mem_map.1 ht
  rw [isD_len (Sl.chainF_isD (show Dg.isD (Sl.start s i k) = true from Dg.sumL_isD _))]; decide
theorem key_isD (s : List UInt8) (i : Nat) : Dg.isD (Sl.key s i) = true := Dg.sumL_isD _
set_option maxHeartbeats 2000000 in
set_option maxRecDepth 100000 in
theorem key_any (s : ByteArray) (i : Nat) (w : World) (hs : s.size ≤ 300) (hi : i < 10000) (ht : Tab w) :
    Calls Tryd.prog 52 #[.string s, .int .i64 i] w fun e w' => e = .returned (.string (mkB (Sl.key s.data.toList i))) ∧ Below w.heap.size w w' := by
  have HT := Lib.hid ht; clear ht
  have EL := Sl.endsF_len s.data.toList i
  obtain ⟨B, hB⟩ : ∃ B, w.heap.size = B := ⟨_, rfl⟩
  have HW : Hid (B = w.heap.size) := Lib.hid hB.symm
  have HB : Hid (Below B w w) := Lib.hid (Below.refl _ _)
  clear hB
  go_enter Tryd.func52, Tryd.ntmps52
  go_wp2_with fail
  go_loopw [5, 7] (fun v i' wr => ∃ k : Nat, k ≤ 18 ∧ i' = .int .i64 k ∧ Hid (wr.ownsRow B 9 1 v k (sv ((Sl.endsF s.data.toList i).take k))) ∧ Hid (Below B w wr)) (fun _ i' _ => 18 - (intOf i').toNat)
  case atStart => exact ⟨0, by omega, rfl, Lib.hid (World.ownsRow_nil _ _ _ _), HB⟩
  case round =>
    clear HB
    obtain ⟨k, hk, rfl, hown, hbl⟩ := hrel
    have hsz : B ≤ wr.heap.size := by have := hbl.out.size; rw [HW.out]; exact this
    by_cases hlt : k < 18
    · have d1 : decide ((k : Int) < 18) = true := by simp; omega
      have ES := Lib.hid (ends_step (s := s.data.toList) (i := i) hlt)
      have KT := Lib.hid (HT.out.keep (HW.out ▸ hbl.out))
      obtain ⟨A5, c5, rfl, -, -⟩ := own_form hown.out
      go_wp2_with fail
      refine (start_any s i k wr hs hi (by omega) KT.out).mono ?_
      rintro e w1 ⟨rfl, hb1⟩
      have B1 := Lib.hid hb1; clear hb1
      have zz : (mkB (Sl.start s.data.toList i k)).size < 9223372036854775807 := by rw [mkB_size, show (Sl.start s.data.toList i k).length = 16 from isD_len (Dg.sumL_isD _)]; decide
      have CA := Lib.hid (fun u => chain_any (mkB (Sl.start s.data.toList i k)) 15 15 u rfl (by decide) zz)
      rw [mkB_list] at CA
      clear zz
      generalize Sl.chainF 15 (Sl.start s.data.toList i k) = y at *
      generalize Sl.start s.data.toList i k = x at *
      go_wp2_with fail
      refine (CA.out _).mono ?_
      rintro e w2 ⟨rfl, hb2⟩
      have B2 := Lib.hid (B1.out.trans (hb2.mono B1.out.size)); clear hb2 B1
      have hs2 : B ≤ w2.heap.size := by have := B2.out.size; omega
      have HO := Lib.hid (own_below hown.out B2.out (Nat.le_refl _))
      clear hown
      go_wp2_with (at_builtin; refine wpList_app1 rfl (.tmp 10) (.tmp 16) 22 rfl Tryd.underlying22 info_str rfl (by decide) B (.slice A5 _ c5) _ _ w2 #[.string (mkB y)] rfl ?c1 rfl rfl rfl HO.out hs2 ?c2 ?c3 ?_)
      case c1 => simp [Value.oneCell']
      case c2 => omega
      case c3 => omega
      intro v2 w3 hown2 hb3
      have HO2 : Hid (w3.ownsRow B 9 1 v2 (k + 1) (sv ((Sl.endsF s.data.toList i).take (k + 1)))) := Lib.hid (by rw [ES.out]; exact hown2)
      have HB3 : Hid (Below B w w3) := Lib.hid ((hbl.out.trans (B2.out.mono hsz)).trans hb3)
      clear hown2 hb3 HO
      go_wp2_with fail
      exact ⟨⟨k + 1, hlt, by go_num, HO2, HB3⟩, by simp [intOf]; omega⟩
    · have hk18 : k = 18 := by omega
      subst hk18
      have d1 : decide (((18 : Nat) : Int) < 18) = false := by decide
      obtain ⟨A5, c5, rfl, -, -⟩ := own_form hown.out
      have RD := Lib.hid (Rd.of_own hown.out)
      rw [List.take_of_length_le (by omega)] at RD
      have OA := Lib.hid (of_any A5 18 c5 (Sl.endsF s.data.toList i) wr EL.symm (by omega) ends_size (HT.out.keep (HW.out ▸ hbl.out)) RD.out)
      have HBL : Hid (Below w.heap.size w wr) := Lib.hid (HW.out ▸ hbl.out)
      clear hown RD
      go_wp2_with fail
      refine OA.out.mono ?_
      rintro e w1 ⟨rfl, hb1⟩
      have B1 := Lib.hid (HBL.out.trans (hb1.mono HBL.out.size)); clear hb1
      go_wp2_with fail
      go_ret
      exact ⟨rfl, B1.out⟩
/-- a slice of strings comes back; nothing that lay before has turned -/
def SlPost (w : World) (L : List (List UInt8)) (e : Ending) (w' : World) : Prop := ∃ A c, e = .returned (.slice A L.length c) ∧ L.length ≤ c ∧ c ≤ maxLen ∧ Rd w' A (sv L) ∧ Below w.heap.size w w' ∧ ∀ p, A = some p → w.heap.size ≤ p.block
def kRow (s : List UInt8) (n k : Nat) : Array Value := ((List.range n).map fun j => if j < k then Value.string (mkB (Sl.key s j)) else .string .empty).toArray
theorem kRow_zero (s : List UInt8) (n : Nat) : madeCells (Value.string .empty).cells (n * 1) = kRow s n 0 := by
  apply Array.ext'
  rw [Nat.mul_one]
  show (madeCells #[Value.string .empty] n).toList = _
  rw [toList_madeCells_one]
  unfold kRow
  refine List.ext_getElem (by simp) fun i h1 h2 => ?_
  simp
theorem kRow_step {s : List UInt8} {n k : Nat} (hk : k < n) : (kRow s n k).setIfInBounds k (.string (mkB (Sl.key s k))) = kRow s n (k + 1) := by
  unfold kRow
  rw [List.setIfInBounds_toArray]
  congr 1
  refine List.ext_getElem (by simp) fun i h1 h2 => ?_
  rw [List.getElem_set]
  simp only [List.getElem_map, List.getElem_range]
  by_cases e : k = i
  · subst e; simp
  · rw [if_neg e]
    by_cases h : i < k
    · rw [if_pos h, if_pos (by omega)]
    · rw [if_neg h, if_neg (by omega)]
theorem kRow_at {s : List UInt8} {n k : Nat} (hk : k < n) : (kRow s n k)[k]? = some (.string .empty) := by simp [kRow, hk]
theorem kRow_full (s : List UInt8) (h : Nat) : (kRow s (2 ^ h) (2 ^ h)).toList = sv (Sl.keysF s h) := by
  unfold kRow sv mkL Sl.keysF
  refine List.ext_getElem (by simp) fun i h1 h2 => ?_
  have : i < 2 ^ h := by simpa using h1
  simp [this]
theorem pow_le8 {h : Nat} (hh : h ≤ 8) : 2 ^ h ≤ 256 := Nat.pow_le_pow_right (n := 2) (by decide) hh
theorem wrap_pow {h : Nat} (hh : h ≤ 8) : wrap64 (2 ^ h) = ((2 ^ h : Nat) : Int) := by
  have e : ((2 : Int) ^ h) = ((2 ^ h : Nat) : Int) := by push_cast; rfl
  rw [e]
  have := pow_le8 hh
  generalize 2 ^ h = n at *
  exact IntWalk.wrap64_in _ (by omega)
set_option maxHeartbeats 2000000 in
set_option maxRecDepth 100000 in
theorem keys_any (s : ByteArray) (h : Nat) (w : World) (hs : s.size ≤ 300) (hh : h ≤ 8) (ht : Tab w) :
    Calls Tryd.prog 26 #[.string s, .int .i64 h] w (SlPost w (Sl.keysF s.data.toList h)) := by
  have HT := Lib.hid ht; clear ht
  have i0 : (0 : Int) ≤ (h : Int) := by omega
  have i1 : (h : Int) < 64 := by omega
  have PW := wrap_pow hh
  have P8 := pow_le8 hh
  have KL := Sl.keysF_len s.data.toList h
  have KF := Lib.hid (kRow_full s.data.toList h)
  generalize 2 ^ h = n at *
  have hmk := mk_run (P := Tryd.prog) (t := 22) (e := 9) Tryd.underlying22 info_str n (by omega) (by omega) w
  rw [kRow_zero s.data.toList n] at hmk
  obtain ⟨B, hB⟩ : ∃ B, w.heap.size = B := ⟨_, rfl⟩
  obtain ⟨W, hW⟩ : ∃ W, W = w.alloc (.cells (kRow s.data.toList n 0) 9) := ⟨_, rfl⟩
  have HC : Hid (W.heap[B]? = some (.cells (kRow s.data.toList n 0) 9 (0, 0))) := Lib.hid (by rw [hW, ← hB]; exact heap_alloc_new w _)
  have HBL : Hid (Below w.heap.size w W) := Lib.hid (by rw [hW]; exact (Below.refl _ _).alloc (Nat.le_refl _) _)
  have HW : Hid (B = w.heap.size) := Lib.hid hB.symm
  rw [← hW, hB] at hmk
  clear hB hW hh
  have d0 : decide ((0 : Int) < (n : Int)) = decide (0 < n) := by simp
  clear d0
  go_enter Tryd.func26, Tryd.ntmps26
  go_wp2_with fail
  clear hmk PW
  go_loopw [12] (fun i wr => ∃ k : Nat, k ≤ n ∧ i = .int .i64 k ∧ Hid (wr.heap[B]? = some (.cells (kRow s.data.toList n k) 9 (0, 0))) ∧ Hid (Below w.heap.size w wr)) (fun i _ => n - (intOf i).toNat)
  case atStart => exact ⟨0, by omega, rfl, HC, HBL⟩
  case round =>
    clear HC HBL
    obtain ⟨k, hk, rfl, hc, hbl⟩ := hrel
    by_cases hlt : k < n
    · have d1 : decide ((k : Int) < (n : Int)) = true := by simp; omega
      have KS := Lib.hid (kRow_step (s := s.data.toList) hlt)
      have KA := Lib.hid (key_any s k wr hs (by omega) (HT.out.keep hbl.out))
      generalize Sl.key s.data.toList k = y at *
      go_wp2_with fail
      refine KA.out.mono ?_
      rintro e w1 ⟨rfl, hb1⟩
      have B1 := Lib.hid (hbl.out.trans (hb1.mono hbl.out.size))
      have C1 := Lib.hid ((hb1.block B (lt_of_block hc.out)).trans hc.out); clear hb1
      have hcell := (cell_of_row w1 B k _ _ _ C1.out).trans (kRow_at hlt)
      have hfree := free_blk C1.out k
      have hBw : w.heap.size ≤ B := by rw [HW.out]; exact Nat.le_refl _
      have ik0 : (0 : Int) ≤ (k : Int) := by omega
      have ik1 : (k : Int) < (n : Int) := by omega
      go_wp2_with fail
      exact ⟨⟨k + 1, hlt, by go_num, Lib.hid (by rw [← KS.out]; exact row_put C1.out _), Lib.hid (B1.out.setCell (by show w.heap.size ≤ B; exact hBw) _)⟩, by simp [intOf]; omega⟩
    · have hkn : k = n := by omega
      subst hkn
      have d1 : decide ((k : Int) < (k : Int)) = false := by simp
      have RD : Hid (Rd wr (some ⟨B, 0, none⟩) (sv (Sl.keysF s.data.toList h))) := Lib.hid (Rd.of_row hc.out (by rw [KF.out]; exact List.prefix_refl _))
      go_wp2_with fail
      go_ret
      exact ⟨_, k, by rw [KL]; rfl, by rw [KL]; exact Nat.le_refl _, by unfold maxLen; omega, RD.out, hbl.out, fun p hp => by cases hp; rw [HW.out]; exact Nat.le_refl _⟩
end Go.Proofs.YthceonkdmcidcaaDoor
