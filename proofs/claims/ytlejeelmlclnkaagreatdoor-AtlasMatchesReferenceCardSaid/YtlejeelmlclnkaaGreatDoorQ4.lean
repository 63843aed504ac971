/- WALKS: digest.Sum. -/
import Derived.Test.YtlejeelmlclnkaaGreatDoorQ3
import Derived.Laws.IdiomStrings
set_option linter.unusedSimpArgs false
set_option linter.unusedVariables false
namespace Go.Proofs.YtlejeelmlclnkaaGreatDoor
open Go.RowKit

theorem ext_list (t : ByteArray) (a b : Nat) : (t.extract a b).data.toList = (t.data.toList.take b).drop a := by
  rw [ByteArray.data_extract, Array.toList_extract]
  simp [List.drop_take]
theorem ext_head (t : ByteArray) : (t.extract 0 8).data.toList = t.data.toList.take 8 := by rw [ext_list]; rfl
theorem ext_tail (t : ByteArray) : (t.extract 8 t.size).data.toList = t.data.toList.drop 8 := by rw [ext_list, List.take_of_length_le (by rw [← Lib.size_eq]; exact Nat.le_refl _)]
def oRow (S k : Nat) : Array Value := ((List.range 16).map fun j => if j < k then hexV (S / 16 ^ (15 - j) % 16) else .int .u8 0).toArray
theorem oRow_step {S k : Nat} (hk : k < 16) : (oRow S k).setIfInBounds k (hexV (S / 16 ^ (15 - k) % 16)) = oRow S (k + 1) := by
  rcases lt16 hk with rfl | rfl | rfl | rfl | rfl | rfl | rfl | rfl | rfl | rfl | rfl | rfl | rfl | rfl | rfl | rfl <;> rfl
theorem oRow_at {S k : Nat} (hk : k < 16) : (oRow S k)[k]? = some (.int .u8 0) := by
  rcases lt16 hk with rfl | rfl | rfl | rfl | rfl | rfl | rfl | rfl | rfl | rfl | rfl | rfl | rfl | rfl | rfl | rfl <;> rfl
theorem hexRow_at {k : Nat} (hk : k < 16) : hexRow[k]? = some (hexV k) := by
  rcases lt16 hk with rfl | rfl | rfl | rfl | rfl | rfl | rfl | rfl | rfl | rfl | rfl | rfl | rfl | rfl | rfl | rfl <;> rfl
theorem hex_range : ∀ (k n : Nat), Dg.hex k n = (List.range k).map fun j => Dg.hexd (n / 16 ^ (k - 1 - j) % 16)
  | 0, _ => rfl
  | k + 1, n => by
    rw [Dg.hex, hex_range k, List.range_succ, List.map_append]
    congr 1
    · apply List.map_congr_left
      intro j hj
      have hj' : j < k := List.mem_range.1 hj
      rw [Nat.div_div_eq_div_mul, ← Nat.pow_succ', show (k - 1 - j).succ = k + 1 - 1 - j by omega]
    · simp
theorem oRow_full (S : Nat) : oRow S 16 = (Lib.byteCells (Dg.hex 16 S)).toArray := by
  rw [hex_range]
  unfold oRow Lib.byteCells
  rw [List.map_map]
  congr 1
theorem nib (S k : Nat) (hS : S < Dg.M) (hk : k < 16) : bits .and .u64 ((S : Int) / 2 ^ (60 - 4 * k)) 15 = ((S / 16 ^ (15 - k) % 16 : Nat) : Int) := by
  have e : (2 : Nat) ^ (60 - 4 * k) = 16 ^ (15 - k) := by rw [show 60 - 4 * k = 4 * (15 - k) by omega, Nat.pow_mul]
  have h := bits_and_u64_nat (S / 2 ^ (60 - 4 * k)) 15 (Nat.lt_of_le_of_lt (Nat.div_le_self _ _) hS) (by decide)
  rw [Int.natCast_ediv, Int.natCast_pow] at h
  refine h.trans ?_
  have h2 := Nat.and_two_pow_sub_one_eq_mod (S / 2 ^ (60 - 4 * k)) 4
  rw [show (2 : Nat) ^ 4 - 1 = 15 from rfl, show (2 : Nat) ^ 4 = 16 from rfl] at h2
  rw [h2, e]
def strLen : Value → Nat
  | .string s => s.size
  | _ => 0
set_option maxHeartbeats 4000000 in
theorem sum_any (s : ByteArray) (w : World) (hs : s.size < 9223372036854775807) :
    Calls Tryz.prog 23 #[.string s] w fun e w' => e = .returned (.string ⟨(Dg.sumL s.data.toList).toArray⟩) ∧ Below w.heap.size w w' := by
  have hsM : s.size < Dg.M := Nat.lt_trans hs (by decide)
  have ei : bits .xor .u64 1181783497276652981 (s.size : Int) = ((Dg.init s.size : Nat) : Int) := xor_step 1181783497276652981 s.size (by decide) hsM
  obtain ⟨W, hW⟩ : ∃ W, W = w.alloc (.cells #[.int .u64 ((Dg.init s.size : Nat) : Int)] 87) := ⟨_, rfl⟩
  have HC : Hid (W.heap[w.heap.size]? = some (.cells #[.int .u64 ((Dg.init s.size : Nat) : Int)] 87 (0, 0))) := Lib.hid (by rw [hW]; exact heap_alloc_new w _)
  have HB : Hid (Below w.heap.size w W) := Lib.hid (by rw [hW]; exact (Below.refl _ _).alloc (Nat.le_refl _) _)
  have HR : Hid (Dg.sumN s.data.toList = Dg.run (Dg.init s.size) s.data.toList) := Lib.hid (by unfold Dg.sumN; rw [← Lib.size_eq])
  have HI : Hid (Dg.init s.size < Dg.M) := Lib.hid (Dg.init_lt hsM)
  obtain ⟨g, hg⟩ : ∃ g, w.heap.size = g := ⟨_, rfl⟩
  rw [hg] at HC
  clear hsM
  go_enter Tryz.func23, Tryz.ntmps23
  go_wp2_with fail
  rw [← hW]
  clear hW
  generalize Dg.init s.size = st0 at *
  go_loopw [0] (fun s0 wr => ∃ (t : ByteArray) (st : Nat), s0 = .string t ∧ t.size ≤ s.size ∧ Hid (st < Dg.M) ∧ Hid (Dg.sumN s.data.toList = Dg.run st t.data.toList) ∧ Hid (wr.heap[g]? = some (.cells #[.int .u64 (st : Int)] 87 (0, 0))) ∧ Hid (Below w.heap.size w wr)) (fun s0 _ => strLen s0)
  case atStart => exact ⟨s, st0, rfl, Nat.le_refl _, HI, HR, HC, HB⟩
  case round =>
    obtain ⟨t, st, rfl, hts, hst, hrun, hc, hb⟩ := hrel
    clear HC HB HR HI
    by_cases h8 : 8 ≤ t.size
    · have d1 : decide ((8 : Int) ≤ (t.size : Int)) = true := by simp; omega
      have d2 : decide (8 ≤ t.size) = true := by simp; omega
      have TK := Lib.hid (take_any g st (t.extract 0 8) wr hst.out (by simp; omega) hc.out)
      have RM := Lib.hid (Dg.run_more (st := st) (l := t.data.toList) (by rw [← Lib.size_eq]; exact h8))
      go_wp2_with fail
      refine TK.out.mono ?_
      rintro e w1 ⟨rfl, hc1, hb1⟩
      have HC1 := Lib.hid hc1; have HB1 := Lib.hid hb1; clear hc1 hb1
      go_wp2_with fail
      exact ⟨⟨t.extract 8 t.size, Dg.step st (t.data.toList.take 8), rfl, by simp; omega, Lib.hid (Dg.step_lt _ _), Lib.hid (by rw [hrun.out, RM.out, ext_tail]), Lib.hid (by rw [← ext_head]; exact HC1.out), Lib.hid (hb.out.trans (HB1.out.below hb.out.size (by rintro k rfl; omega)))⟩, by simp [strLen]; omega⟩
    · have d1 : decide ((8 : Int) ≤ (t.size : Int)) = false := by simp; omega
      have d2 : decide (8 ≤ t.size) = false := by simp; omega
      have TK := Lib.hid (take_any g st t wr hst.out (by omega) hc.out)
      have RL := Lib.hid (Dg.run_last (st := st) (l := t.data.toList) (by rw [← Lib.size_eq]; omega))
      go_wp2_with fail
      refine TK.out.mono ?_
      rintro e w1 ⟨rfl, hc1, hb1⟩
      have HB1 := Lib.hid (hb.out.trans (hb1.below hb.out.size (by rintro k rfl; omega))); clear hb1
      rw [← RL.out, ← hrun.out] at hc1
      have SM := Lib.hid (Dg.sumN_lt s.data.toList)
      have ES : Hid (Dg.sumL s.data.toList = Dg.hex 16 (Dg.sumN s.data.toList)) := Lib.hid rfl
      have HC1 := Lib.hid hc1; clear hc1 TK RL hrun hst hc hb
      generalize Dg.sumN s.data.toList = S at *
      go_wp2_with fail
      refine (digits_any _).mono ?_
      rintro e w2 ⟨rfl, hb2⟩
      have HB2 := Lib.hid (HB1.out.trans (hb2.mono HB1.out.size))
      have HC2 := Lib.hid ((hb2.block g (lt_of_block HC1.out)).trans HC1.out)
      clear hb2 HC1 HB1
      unfold hexRow
      go_wp2_with fail
      obtain ⟨W3, hW⟩ : ∃ W3, W3 = (w2.alloc (.cells #[.int .u8 48, .int .u8 49, .int .u8 50, .int .u8 51, .int .u8 52, .int .u8 53, .int .u8 54, .int .u8 55, .int .u8 56, .int .u8 57, .int .u8 97, .int .u8 98, .int .u8 99, .int .u8 100, .int .u8 101, .int .u8 102] 91)).alloc (.cells #[.int .u8 0, .int .u8 0, .int .u8 0, .int .u8 0, .int .u8 0, .int .u8 0, .int .u8 0, .int .u8 0, .int .u8 0, .int .u8 0, .int .u8 0, .int .u8 0, .int .u8 0, .int .u8 0, .int .u8 0, .int .u8 0] 91) := ⟨_, rfl⟩
      have T3 : Hid (W3.heap[w2.heap.size]? = some (.cells hexRow 91 (0, 0))) := Lib.hid (by rw [hW]; exact (alloc_old _ _ (by simp)).trans (heap_alloc_new w2 _))
      have O3 : Hid (W3.heap[w2.heap.size + 1]? = some (.cells (oRow S 0) 91 (0, 0))) := Lib.hid (by rw [hW]; exact alloc_new' _ _ _ (by simp))
      have B23 : Below w2.heap.size w2 W3 := by rw [hW]; exact ((Below.refl _ _).alloc (Nat.le_refl _) _).alloc (by simp) _
      have S3 := Lib.hid ((B23.block g (lt_of_block HC2.out)).trans HC2.out)
      have HB3 := Lib.hid (HB2.out.trans (B23.mono HB2.out.size))
      have hgq := lt_of_block HC2.out
      have hwq := HB2.out.size
      rw [← hW]
      clear hW B23 HC2 HB2 hts
      obtain ⟨q, hq⟩ : ∃ q, w2.heap.size = q := ⟨_, rfl⟩
      rw [hq] at T3 O3 hgq hwq ⊢
      go_loopw [26] (fun s26 wr => ∃ k : Nat, k ≤ 16 ∧ s26 = .int .i64 k ∧ Hid (wr.heap[q]? = some (.cells hexRow 91 (0, 0))) ∧ Hid (wr.heap[q + 1]? = some (.cells (oRow S k) 91 (0, 0))) ∧ Hid (wr.heap[g]? = some (.cells #[.int .u64 (S : Int)] 87 (0, 0))) ∧ Hid (Below w.heap.size w wr)) (fun i _ => 16 - (intOf i).toNat)
      case atStart => exact ⟨0, by omega, rfl, T3, O3, S3, HB3⟩
      case round =>
        clear T3 O3 S3 HB3
        obtain ⟨k, hk, rfl, ht, ho, hc, hb⟩ := hrel
        by_cases hlt : k < 16
        · have d3 : decide ((k : Int) < 16) = true := by simp; omega
          have hcS := cell_of_row wr g 0 _ _ _ hc.out
          simp only [List.getElem?_toArray, List.getElem?_cons_zero] at hcS
          have w4 : IntKind.i64.wrap (60 - 4 * (k : Int)) = 60 - 4 * (k : Int) := IntWalk.i64_in _ (by omega)
          have w5 : IntKind.i64.wrap (4 * (k : Int)) = 4 * (k : Int) := IntWalk.i64_in _ (by omega)
          have w6 : (0 : Int) ≤ 60 - 4 * (k : Int) := by omega
          have en := nib S k SM.out hlt
          have hd16 : S / 16 ^ (15 - k) % 16 < 16 := Nat.mod_lt _ (by decide)
          have OST := Lib.hid (oRow_step (S := S) hlt)
          have hct := (cell_of_row wr q _ _ _ _ ht.out).trans (hexRow_at hd16)
          have hco := (cell_of_row wr (q + 1) _ _ _ _ ho.out).trans (oRow_at (S := S) hlt)
          have hfo := free_blk ho.out k
          generalize S / 16 ^ (15 - k) % 16 = d at *
          have i1 : (0 : Int) ≤ (d : Int) := by omega
          have i2 : (d : Int) < 16 := by omega
          unfold hexV at hct OST
          generalize (Dg.hexd d).toNat = v at *
          go_wp2_with fail
          exact ⟨⟨k + 1, by omega, by go_num, Lib.hid ((Below.heap_setCell _ _ _ _ (by show q ≠ q + 1; omega)).trans ht.out), Lib.hid (by rw [← OST.out]; exact row_put ho.out _), Lib.hid ((Below.heap_setCell _ _ _ _ (by show g ≠ q + 1; omega)).trans hc.out), Lib.hid (hb.out.setCell (by show w.heap.size ≤ q + 1; omega) _)⟩, by simp [intOf]; omega⟩
        · have hk16 : k = 16 := by omega
          subst hk16
          have ho' := ho.out
          rw [oRow_full] at ho'
          have hcv := run_convert_bytes_back (P := Tryz.prog) wr 85 9 5 ⟨q + 1, 0, none⟩ 16 (Dg.hex 16 S) Tryz.underlying85 Tryz.underlying5 Tryz.underlying9 (fun j hj => by
            have := (cell_of_row wr (q + 1) j _ _ _ ho').trans (bytes_at hj)
            rcases j with _ | j <;> simpa [Addr.add] using this)
          rw [Dg.hex_len] at hcv
          clear ho' ho
          go_wp2_with fail
          go_ret
          exact ⟨by rw [ES.out]; rfl, hb.out⟩
end Go.Proofs.YtlejeelmlclnkaaGreatDoor
