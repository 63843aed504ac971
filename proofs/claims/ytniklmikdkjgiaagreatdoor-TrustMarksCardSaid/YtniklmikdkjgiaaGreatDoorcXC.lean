import Derived.Test.YtniklmikdkjgiaaGreatDoorcQS
import Derived.Test.YtniklmikdkjgiaaGreatDoorcXA
import Derived.Test.YtniklmikdkjgiaaGreatDoorcXB
import Derived.Laws.Bits64b
import Derived.Lib.SlBuf
import Derived.Lib.BufferWrite
import Derived.Laws.IdiomStrings
import Derived.Lib.AppendStr
import Derived.Lib.Builder
import Derived.Lib.AppendIntMem
import Derived.Lib.ItoaMem
import Derived.Laws.Concat
set_option linter.all false
set_option maxHeartbeats 16000000
set_option maxRecDepth 100000
namespace Go.Proofs.YtniklmikdkjgiaaGreatDoor
open Go.RowKit
theorem mul1 (x : Nat) (hx : x < Dg.M) (w : World) : Calls Tryz.prog 141 #[.int .u64 x, .int .u64 2862933555777941757] w fun e w' => e = .returned (.tuple #[.int .u64 ((x * Dg.C1 / 18446744073709551616 : Nat) : Int), .int .u64 ((Dg.mulM Dg.C1 x : Nat) : Int)]) ∧ w' = w :=
  Tryz.bits_Mul64 x 2862933555777941757 hx (by decide) w
theorem mul2 (x : Nat) (hx : x < Dg.M) (w : World) : Calls Tryz.prog 141 #[.int .u64 x, .int .u64 3935559000370003845] w fun e w' => e = .returned (.tuple #[.int .u64 ((x * Dg.C2 / 18446744073709551616 : Nat) : Int), .int .u64 ((Dg.mulM Dg.C2 x : Nat) : Int)]) ∧ w' = w :=
  Tryz.bits_Mul64 x 3935559000370003845 hx (by decide) w
theorem xsh32 (y : Nat) (hy : y < Dg.M) : bits .xor .u64 (y : Int) ((y : Int) / 4294967296) = ((Dg.xsh 32 y : Nat) : Int) := by
  have := xorShift_u64 y 4294967296 hy
  unfold Dg.xsh
  rw [Nat.shiftRight_eq_div_pow]
  exact this
theorem xsh29 (y : Nat) (hy : y < Dg.M) : bits .xor .u64 (y : Int) ((y : Int) / 536870912) = ((Dg.xsh 29 y : Nat) : Int) := by
  have := xorShift_u64 y 536870912 hy
  unfold Dg.xsh
  rw [Nat.shiftRight_eq_div_pow]
  exact this
theorem mix_any (x : Nat) (w : World) (hx : x < Dg.M) : Calls Tryz.prog 109 #[.int .u64 (x : Int)] w fun e w' => e = .returned (.int .u64 ((Dg.mix x : Nat) : Int)) ∧ w = w' := by
  have e1 := xsh32 (Dg.mulM Dg.C1 x) (Dg.mulM_lt _ _)
  have e2 := xsh29 (Dg.mulM Dg.C2 (Dg.xsh 32 (Dg.mulM Dg.C1 x))) (Dg.mulM_lt _ _)
  have EM : Hid (Dg.mix x = Dg.xsh 29 (Dg.mulM Dg.C2 (Dg.xsh 32 (Dg.mulM Dg.C1 x)))) := Lib.hid rfl
  go_enter Tryz.func109, Tryz.ntmps109
  go_wp2_with fail
  refine (mul1 x hx _).mono ?_
  rintro e w' ⟨rfl, rfl⟩
  go_wp2_with fail
  refine (mul2 _ (Dg.xsh_lt (Dg.mulM_lt _ _)) _).mono ?_
  rintro e w' ⟨rfl, rfl⟩
  go_wp2_with fail
  go_ret
  exact ⟨by rw [EM.out]; rfl, rfl⟩
end Go.Proofs.YtniklmikdkjgiaaGreatDoor
namespace Go.Proofs.YtniklmikdkjgiaaGreatDoor
open Go.RowKit
def pad8 (l : List UInt8) : List UInt8 := l ++ List.replicate (8 - l.length) 0
theorem pad8_len {l : List UInt8} (h : l.length ≤ 8) : (pad8 l).length = 8 := by unfold pad8; simp; omega
theorem be_zeros (l : List UInt8) : ∀ k, Dg.be (l ++ List.replicate k 0) = Dg.be l * 256 ^ k
  | 0 => by simp
  | k + 1 => by
    rw [List.replicate_succ', ← List.append_assoc, Dg.be_snoc, be_zeros l k, Nat.pow_succ, ← Nat.mul_assoc, show (0 : UInt8).toNat = 0 from rfl, Nat.add_zero]
theorem be_pad {l : List UInt8} : Dg.be (pad8 l) = Dg.blk l := by unfold pad8; rw [be_zeros, Dg.blk]
theorem be_take {l : List UInt8} {k : Nat} (h : k < l.length) : Dg.be (l.take (k + 1)) = Dg.be (l.take k) * 256 + l[k].toNat := by
  rw [List.take_succ_eq_append_getElem h, Dg.be_snoc]
theorem be_bound {l : List UInt8} {k : Nat} (h : k < 8) : Dg.be (l.take k) < 72057594037927936 := by
  have h1 := Dg.be_lt (l.take k)
  have h2 : 256 ^ (l.take k).length ≤ 256 ^ 7 := Nat.pow_le_pow_right (by decide) (by rw [List.length_take]; omega)
  have h3 : (256 : Nat) ^ 7 = 72057594037927936 := by decide
  rw [h3] at h2
  exact Nat.lt_of_lt_of_le h1 h2
theorem or_byte (n b : Nat) (hn : n < 72057594037927936) (hb : b < 256) : bits .or .u64 ((n : Int) * 256) (b : Int) = (n : Int) * 256 + (b : Int) := by
  have h := bits_or_u64_nat (n * 256) b (by omega) (by omega)
  have h2 := Nat.shiftLeft_add_eq_or_of_lt (show b < 2 ^ 8 by simpa using hb) n
  rw [Nat.shiftLeft_eq, show (2 : Nat) ^ 8 = 256 from rfl] at h2
  rw [← h2] at h
  rw [Int.natCast_mul, Int.natCast_add, Int.natCast_mul] at h
  exact h
theorem xor_step (s n : Nat) (hs : s < Dg.M) (hn : n < Dg.M) : bits .xor .u64 (s : Int) (n : Int) = ((s ^^^ n : Nat) : Int) := bits_xor_u64_nat s n hs hn
theorem row_pad (s : ByteArray) (hs : s.size ≤ 8) : ((#[.int .u8 0, .int .u8 0, .int .u8 0, .int .u8 0, .int .u8 0, .int .u8 0, .int .u8 0, .int .u8 0] : Array Value).toList.take 0 ++ Lib.byteCells s.data.toList ++ (#[.int .u8 0, .int .u8 0, .int .u8 0, .int .u8 0, .int .u8 0, .int .u8 0, .int .u8 0, .int .u8 0] : Array Value).toList.drop (0 + s.size)) = Lib.byteCells (pad8 s.data.toList) := by
  have hl : s.data.toList.length = s.size := (Lib.size_eq s).symm
  have e : (#[.int .u8 0, .int .u8 0, .int .u8 0, .int .u8 0, .int .u8 0, .int .u8 0, .int .u8 0, .int .u8 0] : Array Value).toList = List.replicate 8 (Value.int .u8 0) := rfl
  rw [e, List.take_zero, List.nil_append, Nat.zero_add, List.drop_replicate]
  unfold Lib.byteCells pad8
  rw [List.map_append, List.map_replicate, hl]
  rfl
theorem bytes_at {l : List UInt8} {k : Nat} (h : k < l.length) : (Lib.byteCells l).toArray[k]? = some (.int .u8 (l[k].toNat : Int)) := by
  unfold Lib.byteCells; simp [h]
theorem one_put {w : World} {g : Nat} {v : Value} {t : TypeId} (h : w.heap[g]? = some (.cells #[v] t (0, 0))) (u : Value) : (w.setCell ⟨g, 0, none⟩ u).heap[g]? = some (.cells #[u] t (0, 0)) := by simp [World.setCell, Array.getElem?_modify, h]
theorem take_any (gs st : Nat) (s : ByteArray) (w : World) (hst : st < Dg.M) (hs : s.size ≤ 8) (hc : w.heap[gs]? = some (.cells #[.int .u64 (st : Int)] 135 (0, 0))) :
    Calls Tryz.prog 108 #[.string s, .pointer (some ⟨gs, 0, none⟩)] w fun e w' => e = .returned (.tuple #[]) ∧ w'.heap[gs]? = some (.cells #[.int .u64 ((Dg.step st s.data.toList : Nat) : Int)] 135 (0, 0)) ∧ But (· = gs) w w' := by
  have hgs : gs < w.heap.size := lt_of_block hc
  have hgn := heap_alloc_new w (.cells #[.int .u8 0, .int .u8 0, .int .u8 0, .int .u8 0, .int .u8 0, .int .u8 0, .int .u8 0, .int .u8 0] 136)
  have hcp := Lib.run_copy_row_string (P := Tryz.prog) (w.alloc (.cells #[.int .u8 0, .int .u8 0, .int .u8 0, .int .u8 0, .int .u8 0, .int .u8 0, .int .u8 0, .int .u8 0] 136)) 137 9 3 5 w.heap.size 0 8 8 s _ _ Tryz.underlying137 (by kernel_rfl) hgn (by simpa using hs) (by simpa using hs)
  rw [row_pad s hs] at hcp
  have hg1 := setRow_heap _ _ _ (Lib.byteCells (pad8 s.data.toList)).toArray _ _ hgn
  have hoth : ∀ k, k ≠ w.heap.size → k < w.heap.size → ((w.alloc (.cells #[.int .u8 0, .int .u8 0, .int .u8 0, .int .u8 0, .int .u8 0, .int .u8 0, .int .u8 0, .int .u8 0] 136)).setRow w.heap.size (Lib.byteCells (pad8 s.data.toList)).toArray).heap[k]? = w.heap[k]? := fun k h1 h2 => (setRow_other _ _ _ _ h1).trans (alloc_old _ _ h2)
  have hb1 : But (· = gs) w ((w.alloc (.cells #[.int .u8 0, .int .u8 0, .int .u8 0, .int .u8 0, .int .u8 0, .int .u8 0, .int .u8 0, .int .u8 0] 136)).setRow w.heap.size (Lib.byteCells (pad8 s.data.toList)).toArray) := ⟨rfl, rfl, rfl, by simp, fun k h1 _ => hoth k (by omega) h1⟩
  have hc1 := (hoth gs (by omega) hgs).trans hc
  obtain ⟨W1, hW⟩ : ∃ W1, W1 = (w.alloc (.cells #[.int .u8 0, .int .u8 0, .int .u8 0, .int .u8 0, .int .u8 0, .int .u8 0, .int .u8 0, .int .u8 0] 136)).setRow w.heap.size (Lib.byteCells (pad8 s.data.toList)).toArray := ⟨_, rfl⟩
  rw [← hW] at hcp hg1 hb1 hc1
  have HP : Hid ((pad8 s.data.toList).length = 8) := Lib.hid (pad8_len (by rw [← Lib.size_eq]; exact hs))
  have HB : Hid (Dg.be (pad8 s.data.toList) = Dg.blk s.data.toList) := Lib.hid be_pad
  have HBL : Hid (Dg.blk s.data.toList < Dg.M) := Lib.hid (Dg.blk_lt (by rw [← Lib.size_eq]; exact hs))
  generalize pad8 s.data.toList = pad at *
  have hC := cell_of_row W1 gs 0 _ _ _ hc1
  have hF := free_blk hc1 0
  have G1 := Lib.hid hg1; have BB := Lib.hid hb1; have C1 := Lib.hid hc1
  simp only [List.getElem?_toArray, List.getElem?_cons_zero] at hC
  clear hgn hoth hg1 hb1 hc1 hc hW
  go_enter Tryz.func108, Tryz.ntmps108
  go_wp2_with fail
  clear hcp
  go_loopw [4, 9] (fun s4 s9 wr => ∃ k : Nat, k ≤ 8 ∧ s9 = .int .i64 k ∧ s4 = .int .u64 ((Dg.be (pad.take k) : Nat) : Int) ∧ wr = W1) (fun _ i _ => 8 - (intOf i).toNat)
  case atStart => exact ⟨0, by omega, rfl, rfl, rfl⟩
  case round =>
    obtain ⟨k, hk, rfl, rfl, rfl⟩ := hrel
    by_cases hlt : k < 8
    · have hkl : k < pad.length := by have := HP.out; omega
      have hcell := (cell_of_row wr w.heap.size k _ _ _ G1.out).trans (bytes_at hkl)
      have ET := Lib.hid (be_take hkl)
      have hn := be_bound (l := pad) (k := k) hlt
      have hb := pad[k].toNat_lt
      generalize pad[k].toNat = b at *
      generalize Dg.be (pad.take k) = n at *
      have w1 : IntKind.u64.wrap ((n : Int) * 256) = (n : Int) * 256 := by rw [IntKind.wrap_u64]; omega
      have w2 := or_byte n b hn (by omega)
      have w3 : IntKind.u64.wrap (b : Int) = (b : Int) := by rw [IntKind.wrap_u64]; omega
      have d1 : decide ((k : Int) < 8) = true := by simp; omega
      go_wp2_with fail
      exact ⟨⟨k + 1, by omega, by go_num, by rw [ET.out]; simp, trivial⟩, by simp [intOf]; omega⟩
    · have hk8 : k = 8 := by omega
      subst hk8
      have e8 : Hid (Dg.be (pad.take 8) = Dg.blk s.data.toList) := Lib.hid (by rw [List.take_of_length_le (by rw [HP.out]; omega), HB.out])
      have ex : bits .xor .u64 (st : Int) ((Dg.be (pad.take 8) : Nat) : Int) = ((st ^^^ Dg.blk s.data.toList : Nat) : Int) := by rw [e8.out]; exact xor_step st _ hst HBL.out
      have MX := Lib.hid (mix_any (st ^^^ Dg.blk s.data.toList) wr (Dg.xor_lt hst HBL.out))
      have ES : Hid (Dg.mix (st ^^^ Dg.blk s.data.toList) = Dg.step st s.data.toList) := Lib.hid rfl
      go_wp2_with fail
      refine MX.out.mono ?_
      rintro e w' ⟨rfl, rfl⟩
      go_wp2_with fail
      refine bodyPost_end (results_none (by rfl) _ _ _) rfl ⟨rfl, ?_, BB.out.set rfl _⟩
      rw [← ES.out]
      exact one_put C1.out _
end Go.Proofs.YtniklmikdkjgiaaGreatDoor
namespace Go.Proofs.YtniklmikdkjgiaaGreatDoor
open Go.RowKit
def hexV (j : Nat) : Value := .int .u8 ((Dg.hexd j).toNat : Int)
def dgRow (k : Nat) : Array Value := ((List.range 16).map fun j => if j < k then hexV j else .int .u8 0).toArray
def hexRow : Array Value := #[.int .u8 48, .int .u8 49, .int .u8 50, .int .u8 51, .int .u8 52, .int .u8 53, .int .u8 54, .int .u8 55, .int .u8 56, .int .u8 57, .int .u8 97, .int .u8 98, .int .u8 99, .int .u8 100, .int .u8 101, .int .u8 102]
theorem dgRow_zero : dgRow 0 = #[.int .u8 0, .int .u8 0, .int .u8 0, .int .u8 0, .int .u8 0, .int .u8 0, .int .u8 0, .int .u8 0, .int .u8 0, .int .u8 0, .int .u8 0, .int .u8 0, .int .u8 0, .int .u8 0, .int .u8 0, .int .u8 0] := rfl
theorem dgRow_full : dgRow 16 = hexRow := rfl
theorem row_put {w : World} {g k : Nat} {cs : Array Value} {t : TypeId} (h : w.heap[g]? = some (.cells cs t (0, 0))) (u : Value) : (w.setCell ⟨g, k, none⟩ u).heap[g]? = some (.cells (cs.setIfInBounds k u) t (0, 0)) := by simp [World.setCell, Array.getElem?_modify, h]
theorem lt16 {k : Nat} (h : k < 16) : k = 0 ∨ k = 1 ∨ k = 2 ∨ k = 3 ∨ k = 4 ∨ k = 5 ∨ k = 6 ∨ k = 7 ∨ k = 8 ∨ k = 9 ∨ k = 10 ∨ k = 11 ∨ k = 12 ∨ k = 13 ∨ k = 14 ∨ k = 15 := by omega
theorem dgRow_low {k : Nat} (hk : k < 10) : (dgRow k).setIfInBounds k (.int .u8 (48 + (k : Int))) = dgRow (k + 1) := by
  rcases lt16 (show k < 16 by omega) with rfl | rfl | rfl | rfl | rfl | rfl | rfl | rfl | rfl | rfl | rfl | rfl | rfl | rfl | rfl | rfl <;> first | rfl | omega
theorem dgRow_high {k : Nat} (hk : k < 16) (h10 : ¬ k < 10) (u : Value) : ((dgRow k).setIfInBounds k u).setIfInBounds k (.int .u8 (97 + (k : Int) - 10)) = dgRow (k + 1) := by
  rcases lt16 hk with rfl | rfl | rfl | rfl | rfl | rfl | rfl | rfl | rfl | rfl | rfl | rfl | rfl | rfl | rfl | rfl <;> first | rfl | omega
theorem dgRow_at {k : Nat} (hk : k < 16) : (dgRow k)[k]? = some (.int .u8 0) := by
  rcases lt16 hk with rfl | rfl | rfl | rfl | rfl | rfl | rfl | rfl | rfl | rfl | rfl | rfl | rfl | rfl | rfl | rfl <;> rfl
theorem digits_any (w : World) : Calls Tryz.prog 110 #[] w fun e w' => e = .returned (.agg hexRow) ∧ Below w.heap.size w w' := by
  obtain ⟨W, hW⟩ : ∃ W, W = (w.alloc (.cells #[.int .u8 0, .int .u8 0, .int .u8 0, .int .u8 0, .int .u8 0, .int .u8 0, .int .u8 0, .int .u8 0, .int .u8 0, .int .u8 0, .int .u8 0, .int .u8 0, .int .u8 0, .int .u8 0, .int .u8 0, .int .u8 0] 141)).alloc (.cells #[.int .u8 0, .int .u8 0, .int .u8 0, .int .u8 0, .int .u8 0, .int .u8 0, .int .u8 0, .int .u8 0, .int .u8 0, .int .u8 0, .int .u8 0, .int .u8 0, .int .u8 0, .int .u8 0, .int .u8 0, .int .u8 0] 141) := ⟨_, rfl⟩
  have HR : Hid (W.heap[w.heap.size]? = some (.cells #[.int .u8 0, .int .u8 0, .int .u8 0, .int .u8 0, .int .u8 0, .int .u8 0, .int .u8 0, .int .u8 0, .int .u8 0, .int .u8 0, .int .u8 0, .int .u8 0, .int .u8 0, .int .u8 0, .int .u8 0, .int .u8 0] 141 (0, 0))) := Lib.hid (by rw [hW]; exact (alloc_old _ _ (by simp)).trans (heap_alloc_new w _))
  have HO : Hid (W.heap[w.heap.size + 1]? = some (.cells (dgRow 0) 141 (0, 0))) := Lib.hid (by rw [hW, dgRow_zero]; exact alloc_new' _ _ _ (by simp))
  have HB : Hid (Below w.heap.size w W) := Lib.hid (by rw [hW]; exact ((Below.refl _ _).alloc (Nat.le_refl _) _).alloc (by simp) _)
  obtain ⟨g, hg⟩ : ∃ g, w.heap.size = g := ⟨_, rfl⟩
  rw [hg] at HR HO
  go_enter Tryz.func110, Tryz.ntmps110
  go_wp2_with fail
  rw [← hW]
  clear hW
  go_loopw [3] (fun s3 wr => ∃ k : Nat, k ≤ 16 ∧ s3 = .int .i64 k ∧ Hid (wr.heap[g + 1]? = some (.cells (dgRow k) 141 (0, 0))) ∧ Hid (wr.heap[g]? = some (.cells #[.int .u8 0, .int .u8 0, .int .u8 0, .int .u8 0, .int .u8 0, .int .u8 0, .int .u8 0, .int .u8 0, .int .u8 0, .int .u8 0, .int .u8 0, .int .u8 0, .int .u8 0, .int .u8 0, .int .u8 0, .int .u8 0] 141 (0, 0))) ∧ Hid (Below w.heap.size w wr)) (fun i _ => 16 - (intOf i).toNat)
  case atStart => exact ⟨0, by omega, rfl, HO, HR, HB⟩
  case round =>
    clear HO HR HB
    obtain ⟨k, hk, rfl, ho, hr, hb⟩ := hrel
    by_cases hlt : k < 16
    · have hc := (cell_of_row wr (g + 1) k _ _ _ ho.out).trans (dgRow_at hlt)
      have hf := free_blk ho.out k
      have d1 : decide ((k : Int) < 16) = true := by simp; omega
      have w1 : IntKind.u8.wrap (48 + (k : Int)) = 48 + (k : Int) := by simp [IntKind.wrap, IntKind.bits, IntKind.signed]; omega
      by_cases h10 : k < 10
      · have d2 : decide ((10 : Int) ≤ (k : Int)) = false := by simp; omega
        have d3 : decide (10 ≤ k) = false := by simp; omega
        have LOW := Lib.hid (dgRow_low h10)
        go_wp2_with fail
        exact ⟨⟨k + 1, by omega, by go_num, Lib.hid (by rw [← LOW.out]; exact row_put ho.out _), Lib.hid ((Below.heap_setCell _ _ _ _ (by show g ≠ g + 1; omega)).trans hr.out), Lib.hid (hb.out.setCell (by show w.heap.size ≤ g + 1; omega) _)⟩, by simp [intOf]; omega⟩
      · have d2 : decide ((10 : Int) ≤ (k : Int)) = true := by simp; omega
        have d3 : decide (10 ≤ k) = true := by simp; omega
        have w2 : IntKind.u8.wrap (97 + (k : Int) - 10) = 97 + (k : Int) - 10 := by simp [IntKind.wrap, IntKind.bits, IntKind.signed]; omega
        have HI := Lib.hid (dgRow_high hlt h10 (.int .u8 (48 + (k : Int))))
        go_wp2_with fail
        exact ⟨⟨k + 1, by omega, by go_num, Lib.hid (by rw [← HI.out]; exact row_put (row_put ho.out _) _), Lib.hid ((Below.heap_setCell _ _ _ _ (by show g ≠ g + 1; omega)).trans ((Below.heap_setCell _ _ _ _ (by show g ≠ g + 1; omega)).trans hr.out)), Lib.hid ((hb.out.setCell (by show w.heap.size ≤ g + 1; omega) _).setCell (by show w.heap.size ≤ g + 1; omega) _)⟩, by simp [intOf]; omega⟩
    · have hk16 : k = 16 := by omega
      subst hk16
      have ho' := ho.out
      rw [dgRow_full] at ho'
      unfold hexRow at ho'
      skip
      have c0 := cell_of_row wr (g + 1) 0 _ _ _ ho'
      have c1 := cell_of_row wr (g + 1) 1 _ _ _ ho'
      have c2 := cell_of_row wr (g + 1) 2 _ _ _ ho'
      have c3 := cell_of_row wr (g + 1) 3 _ _ _ ho'
      have c4 := cell_of_row wr (g + 1) 4 _ _ _ ho'
      have c5 := cell_of_row wr (g + 1) 5 _ _ _ ho'
      have c6 := cell_of_row wr (g + 1) 6 _ _ _ ho'
      have c7 := cell_of_row wr (g + 1) 7 _ _ _ ho'
      have c8 := cell_of_row wr (g + 1) 8 _ _ _ ho'
      have c9 := cell_of_row wr (g + 1) 9 _ _ _ ho'
      have c10 := cell_of_row wr (g + 1) 10 _ _ _ ho'
      have c11 := cell_of_row wr (g + 1) 11 _ _ _ ho'
      have c12 := cell_of_row wr (g + 1) 12 _ _ _ ho'
      have c13 := cell_of_row wr (g + 1) 13 _ _ _ ho'
      have c14 := cell_of_row wr (g + 1) 14 _ _ _ ho'
      have c15 := cell_of_row wr (g + 1) 15 _ _ _ ho'
      have r0 := cell_of_row wr g 0 _ _ _ hr.out
      have r1 := cell_of_row wr g 1 _ _ _ hr.out
      have r2 := cell_of_row wr g 2 _ _ _ hr.out
      have r3 := cell_of_row wr g 3 _ _ _ hr.out
      have r4 := cell_of_row wr g 4 _ _ _ hr.out
      have r5 := cell_of_row wr g 5 _ _ _ hr.out
      have r6 := cell_of_row wr g 6 _ _ _ hr.out
      have r7 := cell_of_row wr g 7 _ _ _ hr.out
      have r8 := cell_of_row wr g 8 _ _ _ hr.out
      have r9 := cell_of_row wr g 9 _ _ _ hr.out
      have r10 := cell_of_row wr g 10 _ _ _ hr.out
      have r11 := cell_of_row wr g 11 _ _ _ hr.out
      have r12 := cell_of_row wr g 12 _ _ _ hr.out
      have r13 := cell_of_row wr g 13 _ _ _ hr.out
      have r14 := cell_of_row wr g 14 _ _ _ hr.out
      have r15 := cell_of_row wr g 15 _ _ _ hr.out
      have f0 := free_blk hr.out 0
      have f1 := free_blk hr.out 1
      have f2 := free_blk hr.out 2
      have f3 := free_blk hr.out 3
      have f4 := free_blk hr.out 4
      have f5 := free_blk hr.out 5
      have f6 := free_blk hr.out 6
      have f7 := free_blk hr.out 7
      have f8 := free_blk hr.out 8
      have f9 := free_blk hr.out 9
      have f10 := free_blk hr.out 10
      have f11 := free_blk hr.out 11
      have f12 := free_blk hr.out 12
      have f13 := free_blk hr.out 13
      have f14 := free_blk hr.out 14
      have f15 := free_blk hr.out 15
      simp at c0 c1 c2 c3 c4 c5 c6 c7 c8 c9 c10 c11 c12 c13 c14 c15 r0 r1 r2 r3 r4 r5 r6 r7 r8 r9 r10 r11 r12 r13 r14 r15
      clear ho' ho
      go_wp2_with fail
      refine bodyPost_ret (v := .agg #[.int .u8 48, .int .u8 49, .int .u8 50, .int .u8 51, .int .u8 52, .int .u8 53, .int .u8 54, .int .u8 55, .int .u8 56, .int .u8 57, .int .u8 97, .int .u8 98, .int .u8 99, .int .u8 100, .int .u8 101, .int .u8 102]) (by simp [results, Tryz.results110, go_sem, r0, r1, r2, r3, r4, r5, r6, r7, r8, r9, r10, r11, r12, r13, r14, r15]) rfl ⟨rfl, ?_⟩
      repeat (refine Below.setCell ?_ (by show w.heap.size ≤ g; omega) _)
      exact hb.out
end Go.Proofs.YtniklmikdkjgiaaGreatDoor
namespace Go.Proofs.YtniklmikdkjgiaaGreatDoor
open Go.RowKit
theorem ext_list (t : ByteArray) (a b : Nat) : (t.extract a b).data.toList = (t.data.toList.take b).drop a := by
  rw [ByteArray.data_extract, Array.toList_extract]
  simp [List.drop_take]
theorem ext_head (t : ByteArray) : (t.extract 0 8).data.toList = t.data.toList.take 8 := by rw [ext_list]; rfl
theorem ext_tail (t : ByteArray) : (t.extract 8 t.size).data.toList = t.data.toList.drop 8 := by rw [ext_list, List.take_of_length_le (by rw [← Lib.size_eq]; exact Nat.le_refl _)]
def oRow (S k : Nat) : Array Value := ((List.range 16).map fun j => if j < k then hexV (S / 16 ^ (15 - j) % 16) else .int .u8 0).toArray
theorem oRow_step {S k : Nat} (hk : k < 16) : (oRow S k).setIfInBounds k (hexV (S / 16 ^ (15 - k) % 16)) = oRow S (k + 1) := by
  rcases lt16 hk with rfl | rfl | rfl | rfl | rfl | rfl | rfl | rfl | rfl | rfl | rfl | rfl | rfl | rfl | rfl | rfl <;> rfl
theorem oRow_at {S k : Nat} (hk : k < 16) : (oRow S k)[k]? = some (.int .u8 0) := by
  rcases lt16 hk with rfl | rfl | rfl | rfl | rfl | rfl | rfl | rfl | rfl | rfl | rfl | rfl | rfl | rfl | rfl | rfl <;> rfl
theorem hexRow_at {k : Nat} (hk : k < 16) : hexRow[k]? = some (hexV k) := by
  rcases lt16 hk with rfl | rfl | rfl | rfl | rfl | rfl | rfl | rfl | rfl | rfl | rfl | rfl | rfl | rfl | rfl | rfl <;> rfl
theorem hex_range : ∀ (k n : Nat), Dg.hex k n = (List.range k).map fun j => Dg.hexd (n / 16 ^ (k - 1 - j) % 16)
  | 0, _ => rfl
  | k + 1, n => by
    rw [Dg.hex, hex_range k, List.range_succ, List.map_append]
    congr 1
    · apply List.map_congr_left
      intro j hj
      have hj' : j < k := List.mem_range.1 hj
      rw [Nat.div_div_eq_div_mul, ← Nat.pow_succ', show (k - 1 - j).succ = k + 1 - 1 - j by omega]
    · simp
theorem oRow_full (S : Nat) : oRow S 16 = (Lib.byteCells (Dg.hex 16 S)).toArray := by
  rw [hex_range]
  unfold oRow Lib.byteCells
  rw [List.map_map]
  congr 1
theorem nib (S k : Nat) (hS : S < Dg.M) (hk : k < 16) : bits .and .u64 ((S : Int) / 2 ^ (60 - 4 * k)) 15 = ((S / 16 ^ (15 - k) % 16 : Nat) : Int) := by
  have e : (2 : Nat) ^ (60 - 4 * k) = 16 ^ (15 - k) := by rw [show 60 - 4 * k = 4 * (15 - k) by omega, Nat.pow_mul]
  have h := bits_and_u64_nat (S / 2 ^ (60 - 4 * k)) 15 (Nat.lt_of_le_of_lt (Nat.div_le_self _ _) hS) (by decide)
  rw [Int.natCast_ediv, Int.natCast_pow] at h
  refine h.trans ?_
  have h2 := Nat.and_two_pow_sub_one_eq_mod (S / 2 ^ (60 - 4 * k)) 4
  rw [show (2 : Nat) ^ 4 - 1 = 15 from rfl, show (2 : Nat) ^ 4 = 16 from rfl] at h2
  rw [h2, e]
def strLen : Value → Nat
  | .string s => s.size
  | _ => 0
theorem sum_any (s : ByteArray) (w : World) (hs : s.size < 9223372036854775807) :
    Calls Tryz.prog 67 #[.string s] w fun e w' => e = .returned (.string ⟨(Dg.sumL s.data.toList).toArray⟩) ∧ Below w.heap.size w w' := by
  have hsM : s.size < Dg.M := Nat.lt_trans hs (by decide)
  have ei : bits .xor .u64 1181783497276652981 (s.size : Int) = ((Dg.init s.size : Nat) : Int) := xor_step 1181783497276652981 s.size (by decide) hsM
  obtain ⟨W, hW⟩ : ∃ W, W = w.alloc (.cells #[.int .u64 ((Dg.init s.size : Nat) : Int)] 135) := ⟨_, rfl⟩
  have HC : Hid (W.heap[w.heap.size]? = some (.cells #[.int .u64 ((Dg.init s.size : Nat) : Int)] 135 (0, 0))) := Lib.hid (by rw [hW]; exact heap_alloc_new w _)
  have HB : Hid (Below w.heap.size w W) := Lib.hid (by rw [hW]; exact (Below.refl _ _).alloc (Nat.le_refl _) _)
  have HR : Hid (Dg.sumN s.data.toList = Dg.run (Dg.init s.size) s.data.toList) := Lib.hid (by unfold Dg.sumN; rw [← Lib.size_eq])
  have HI : Hid (Dg.init s.size < Dg.M) := Lib.hid (Dg.init_lt hsM)
  obtain ⟨g, hg⟩ : ∃ g, w.heap.size = g := ⟨_, rfl⟩
  rw [hg] at HC
  clear hsM
  go_enter Tryz.func67, Tryz.ntmps67
  go_wp2_with fail
  rw [← hW]
  clear hW
  generalize Dg.init s.size = st0 at *
  go_loopw [0] (fun s0 wr => ∃ (t : ByteArray) (st : Nat), s0 = .string t ∧ t.size ≤ s.size ∧ Hid (st < Dg.M) ∧ Hid (Dg.sumN s.data.toList = Dg.run st t.data.toList) ∧ Hid (wr.heap[g]? = some (.cells #[.int .u64 (st : Int)] 135 (0, 0))) ∧ Hid (Below w.heap.size w wr)) (fun s0 _ => strLen s0)
  case atStart => exact ⟨s, st0, rfl, Nat.le_refl _, HI, HR, HC, HB⟩
  case round =>
    obtain ⟨t, st, rfl, hts, hst, hrun, hc, hb⟩ := hrel
    clear HC HB HR HI
    by_cases h8 : 8 ≤ t.size
    · have d1 : decide ((8 : Int) ≤ (t.size : Int)) = true := by simp; omega
      have d2 : decide (8 ≤ t.size) = true := by simp; omega
      have TK := Lib.hid (take_any g st (t.extract 0 8) wr hst.out (by simp; omega) hc.out)
      have RM := Lib.hid (Dg.run_more (st := st) (l := t.data.toList) (by rw [← Lib.size_eq]; exact h8))
      go_wp2_with fail
      refine TK.out.mono ?_
      rintro e w1 ⟨rfl, hc1, hb1⟩
      have HC1 := Lib.hid hc1; have HB1 := Lib.hid hb1; clear hc1 hb1
      go_wp2_with fail
      exact ⟨⟨t.extract 8 t.size, Dg.step st (t.data.toList.take 8), rfl, by simp; omega, Lib.hid (Dg.step_lt _ _), Lib.hid (by rw [hrun.out, RM.out, ext_tail]), Lib.hid (by rw [← ext_head]; exact HC1.out), Lib.hid (hb.out.trans (HB1.out.below hb.out.size (by rintro k rfl; omega)))⟩, by simp [strLen]; omega⟩
    · have d1 : decide ((8 : Int) ≤ (t.size : Int)) = false := by simp; omega
      have d2 : decide (8 ≤ t.size) = false := by simp; omega
      have TK := Lib.hid (take_any g st t wr hst.out (by omega) hc.out)
      have RL := Lib.hid (Dg.run_last (st := st) (l := t.data.toList) (by rw [← Lib.size_eq]; omega))
      go_wp2_with fail
      refine TK.out.mono ?_
      rintro e w1 ⟨rfl, hc1, hb1⟩
      have HB1 := Lib.hid (hb.out.trans (hb1.below hb.out.size (by rintro k rfl; omega))); clear hb1
      rw [← RL.out, ← hrun.out] at hc1
      have SM := Lib.hid (Dg.sumN_lt s.data.toList)
      have ES : Hid (Dg.sumL s.data.toList = Dg.hex 16 (Dg.sumN s.data.toList)) := Lib.hid rfl
      have HC1 := Lib.hid hc1; clear hc1 TK RL hrun hst hc hb
      generalize Dg.sumN s.data.toList = S at *
      go_wp2_with fail
      refine (digits_any _).mono ?_
      rintro e w2 ⟨rfl, hb2⟩
      have HB2 := Lib.hid (HB1.out.trans (hb2.mono HB1.out.size))
      have HC2 := Lib.hid ((hb2.block g (lt_of_block HC1.out)).trans HC1.out)
      clear hb2 HC1 HB1
      unfold hexRow
      go_wp2_with fail
      obtain ⟨W3, hW⟩ : ∃ W3, W3 = (w2.alloc (.cells #[.int .u8 48, .int .u8 49, .int .u8 50, .int .u8 51, .int .u8 52, .int .u8 53, .int .u8 54, .int .u8 55, .int .u8 56, .int .u8 57, .int .u8 97, .int .u8 98, .int .u8 99, .int .u8 100, .int .u8 101, .int .u8 102] 141)).alloc (.cells #[.int .u8 0, .int .u8 0, .int .u8 0, .int .u8 0, .int .u8 0, .int .u8 0, .int .u8 0, .int .u8 0, .int .u8 0, .int .u8 0, .int .u8 0, .int .u8 0, .int .u8 0, .int .u8 0, .int .u8 0, .int .u8 0] 141) := ⟨_, rfl⟩
      have T3 : Hid (W3.heap[w2.heap.size]? = some (.cells hexRow 141 (0, 0))) := Lib.hid (by rw [hW]; exact (alloc_old _ _ (by simp)).trans (heap_alloc_new w2 _))
      have O3 : Hid (W3.heap[w2.heap.size + 1]? = some (.cells (oRow S 0) 141 (0, 0))) := Lib.hid (by rw [hW]; exact alloc_new' _ _ _ (by simp))
      have B23 : Below w2.heap.size w2 W3 := by rw [hW]; exact ((Below.refl _ _).alloc (Nat.le_refl _) _).alloc (by simp) _
      have S3 := Lib.hid ((B23.block g (lt_of_block HC2.out)).trans HC2.out)
      have HB3 := Lib.hid (HB2.out.trans (B23.mono HB2.out.size))
      have hgq := lt_of_block HC2.out
      have hwq := HB2.out.size
      rw [← hW]
      clear hW B23 HC2 HB2 hts
      obtain ⟨q, hq⟩ : ∃ q, w2.heap.size = q := ⟨_, rfl⟩
      rw [hq] at T3 O3 hgq hwq ⊢
      go_loopw [26] (fun s26 wr => ∃ k : Nat, k ≤ 16 ∧ s26 = .int .i64 k ∧ Hid (wr.heap[q]? = some (.cells hexRow 141 (0, 0))) ∧ Hid (wr.heap[q + 1]? = some (.cells (oRow S k) 141 (0, 0))) ∧ Hid (wr.heap[g]? = some (.cells #[.int .u64 (S : Int)] 135 (0, 0))) ∧ Hid (Below w.heap.size w wr)) (fun i _ => 16 - (intOf i).toNat)
      case atStart => exact ⟨0, by omega, rfl, T3, O3, S3, HB3⟩
      case round =>
        clear T3 O3 S3 HB3
        obtain ⟨k, hk, rfl, ht, ho, hc, hb⟩ := hrel
        by_cases hlt : k < 16
        · have d3 : decide ((k : Int) < 16) = true := by simp; omega
          have hcS := cell_of_row wr g 0 _ _ _ hc.out
          simp only [List.getElem?_toArray, List.getElem?_cons_zero] at hcS
          have w4 : IntKind.i64.wrap (60 - 4 * (k : Int)) = 60 - 4 * (k : Int) := IntWalk.i64_in _ (by omega)
          have w5 : IntKind.i64.wrap (4 * (k : Int)) = 4 * (k : Int) := IntWalk.i64_in _ (by omega)
          have w6 : (0 : Int) ≤ 60 - 4 * (k : Int) := by omega
          have en := nib S k SM.out hlt
          have hd16 : S / 16 ^ (15 - k) % 16 < 16 := Nat.mod_lt _ (by decide)
          have OST := Lib.hid (oRow_step (S := S) hlt)
          have hct := (cell_of_row wr q _ _ _ _ ht.out).trans (hexRow_at hd16)
          have hco := (cell_of_row wr (q + 1) _ _ _ _ ho.out).trans (oRow_at (S := S) hlt)
          have hfo := free_blk ho.out k
          generalize S / 16 ^ (15 - k) % 16 = d at *
          have i1 : (0 : Int) ≤ (d : Int) := by omega
          have i2 : (d : Int) < 16 := by omega
          unfold hexV at hct OST
          generalize (Dg.hexd d).toNat = v at *
          go_wp2_with fail
          exact ⟨⟨k + 1, by omega, by go_num, Lib.hid ((Below.heap_setCell _ _ _ _ (by show q ≠ q + 1; omega)).trans ht.out), Lib.hid (by rw [← OST.out]; exact row_put ho.out _), Lib.hid ((Below.heap_setCell _ _ _ _ (by show g ≠ q + 1; omega)).trans hc.out), Lib.hid (hb.out.setCell (by show w.heap.size ≤ q + 1; omega) _)⟩, by simp [intOf]; omega⟩
        · have hk16 : k = 16 := by omega
          subst hk16
          have ho' := ho.out
          rw [oRow_full] at ho'
          have hcv := run_convert_bytes_back (P := Tryz.prog) wr 137 9 5 ⟨q + 1, 0, none⟩ 16 (Dg.hex 16 S) Tryz.underlying137 Tryz.underlying5 Tryz.underlying9 (fun j hj => by
            have := (cell_of_row wr (q + 1) j _ _ _ ho').trans (bytes_at hj)
            rcases j with _ | j <;> simpa [Addr.add] using this)
          rw [Dg.hex_len] at hcv
          clear ho' ho
          go_wp2_with fail
          go_ret
          exact ⟨by rw [ES.out]; rfl, hb.out⟩
end Go.Proofs.YtniklmikdkjgiaaGreatDoor
namespace Go.Proofs.YtniklmikdkjgiaaGreatDoor
open Go.RowKit
def hexCs : ByteArray := ⟨#[48, 49, 50, 51, 52, 53, 54, 55, 56, 57, 97, 98, 99, 100, 101, 102]⟩
theorem hex_cs (b : UInt8) : Dg.isHex b = [48, 49, 50, 51, 52, 53, 54, 55, 56, 57, 97, 98, 99, 100, 101, 102].contains b := by
  have key : ∀ n : Fin 256, Dg.isHex (UInt8.ofFin n) = [48, 49, 50, 51, 52, 53, 54, 55, 56, 57, 97, 98, 99, 100, 101, 102].contains (UInt8.ofFin n) := by decide +kernel
  exact key b.toFin
theorem dropw_nil {p : UInt8 → Bool} : ∀ {l : List UInt8}, l.dropWhile p = [] ↔ ∀ x ∈ l, p x = true
  | [] => by simp
  | a :: l => by
    rw [List.dropWhile_cons]
    by_cases h : p a = true
    · rw [if_pos h, dropw_nil]; simp [h]
    · rw [if_neg h]; simp [h]
theorem dropw_mem {p : UInt8 → Bool} {x : UInt8} (hx : p x = false) : ∀ {l : List UInt8}, x ∈ l → x ∈ l.dropWhile p
  | [], h => by cases h
  | a :: l, h => by
    rw [List.dropWhile_cons]
    by_cases ha : p a = true
    · rw [if_pos ha]
      rcases List.mem_cons.1 h with rfl | h2
      · rw [hx] at ha; cases ha
      · exact dropw_mem hx h2
    · rw [if_neg ha]; exact h
theorem trim_empty (l cs : List UInt8) : (Lib.trimS l cs).isEmpty = l.all (cs.contains ·) := by
  rw [Bool.eq_iff_iff, List.isEmpty_iff, List.all_eq_true]
  unfold Lib.trimS Lib.trimLeftS Lib.trimRightS
  rw [dropw_nil]
  constructor
  · intro h x hx
    rcases hp : cs.contains x with _ | _
    · have h2 := h x (by rw [List.mem_reverse]; exact dropw_mem hp (List.mem_reverse.2 hx))
      rw [hp] at h2; exact h2
    · rfl
  · intro h x hx
    rw [List.mem_reverse] at hx
    exact h x (List.mem_reverse.1 ((List.dropWhile_sublist _).mem hx))
theorem isD_trim {s : ByteArray} (h : s.size = 16) : Dg.isD s.data.toList = (Lib.trimS s.data.toList [48, 49, 50, 51, 52, 53, 54, 55, 56, 57, 97, 98, 99, 100, 101, 102]).isEmpty := by
  unfold Dg.isD
  rw [trim_empty, ← Lib.size_eq, h]
  simp only [decide_true, Bool.true_and]
  congr 1
  funext b
  exact hex_cs b
theorem trim_any (s : ByteArray) (w : World) (hs : s.size ≤ 9223372036854775807) :
    Calls Tryz.prog 124 #[.string s, .string hexCs] w fun e w' => e = .returned (.string ⟨(Lib.trimS s.data.toList hexCs.data.toList).toArray⟩) ∧ Below w.heap.size w w' :=
  Any.strings_Trim_laid Tryz.laysTrim160 (by kernel_rfl) s hexCs w hs (by decide) (ascii_of_all (by decide))
theorem is_any (s : ByteArray) (w : World) (hs : s.size ≤ 9223372036854775807) :
    Calls Tryz.prog 85 #[.string s] w fun e w' => e = .returned (.bool (Dg.isD s.data.toList)) ∧ Below w.heap.size w w' := by
  by_cases h16 : s.size = 16
  · have d1 : decide ((s.size : Int) = 16) = true := by simp; omega
    have d2 : ((s.size : Int) == 16) = true := by simp; omega
    have d3 : (s.size == 16) = true := by simp; omega
    have TR := Lib.hid (fun u => trim_any s u hs)
    unfold hexCs at TR
    have H16 := Lib.hid h16; clear h16
    go_enter Tryz.func85, Tryz.ntmps85
    go_wp2_with fail
    refine (TR.out _).mono ?_
    rintro e w1 ⟨rfl, hb1⟩
    go_wp2_with fail
    go_ret
    exact ⟨by rw [isD_trim H16.out]; rfl, hb1⟩
  · have d1 : decide ((s.size : Int) = 16) = false := by simp; omega
    have d2 : ((s.size : Int) == 16) = false := by simp; omega
    have d3 : (s.size == 16) = false := by simp; omega
    have EF := Lib.hid (Dg.isD_long (l := s.data.toList) (by rw [← Lib.size_eq]; exact h16))
    clear h16
    go_enter Tryz.func85, Tryz.ntmps85
    go_wp2_with fail
    go_ret
    exact ⟨by rw [EF.out]; rfl, Below.refl _ _⟩
end Go.Proofs.YtniklmikdkjgiaaGreatDoor
namespace Go.Proofs.YtniklmikdkjgiaaGreatDoor
open Go.RowKit Go.Lib
theorem copyCheck_used (b : Nat) (w : World) (h0 : w.cell? ⟨b, 0, none⟩ = some (.pointer (some ⟨b, 0, none⟩))) :
    Calls Tryz.prog 142 #[.pointer (some ⟨b, 0, none⟩)] w fun e w' => e = .returned (.tuple #[]) ∧ w' = w := by
  obtain ⟨j, hj, _⟩ := Option.map_eq_some_iff.1 Tryz.Builder_Extra_169.sizeBuilder
  go_enter Tryz.func142, Tryz.ntmps142
  go_wp2
  rw [Lib.run_neq_ptr_same w _ Tryz.underlying144 hj]
  go_wp2
  go_end0
  exact ⟨rfl, rfl⟩
theorem copyCheck_fresh (b : Nat) (w : World) (h0 : w.cell? ⟨b, 0, none⟩ = some (.pointer none)) (hsh : w.shape? b = some (146, 2)) (hfz : w.frozen? ⟨b, 0, none⟩ = false) :
    Calls Tryz.prog 142 #[.pointer (some ⟨b, 0, none⟩)] w fun e w' => e = .returned (.tuple #[]) ∧ w' = w.setCell ⟨b, 0, none⟩ (.pointer (some ⟨b, 0, none⟩)) := by
  obtain ⟨j, hj, hjs⟩ := Option.map_eq_some_iff.1 Tryz.Builder_Extra_169.sizeBuilder
  go_enter Tryz.func142, Tryz.ntmps142
  go_wp2
  rw [Lib.run_to_unsafe w ⟨b, 0, none⟩ Tryz.underlying144 Tryz.underlying209 hj (by rw [hjs]; decide) hsh (Nat.zero_lt_succ 1)]
  simp only [Result.andThen]
  rw [Oper.upon_value]
  go_wp2
  rw [run_callFunc_extern Tryz.func168 (by kernel_rfl) (by kernel_rfl) (by kernel_rfl) (e := Extern.AbiNoEscape.same) (by kernel_rfl)]
  rw [Lib.run_noEscape]
  simp only [Result.andThen]
  rw [Oper.upon_value]
  go_wp2
  rw [Lib.run_from_unsafe w ⟨b, 0, none⟩ Tryz.underlying209 Tryz.underlying144 hj hsh Tryz.Builder_Extra_169.liesBuilder]
  simp only [Result.andThen]
  rw [Oper.upon_value]
  go_wp2
  go_end0
  exact ⟨rfl, rfl⟩
theorem copyCheck_any (B b : Nat) (bs : List Value) (w : World) (h : Lib.IsBuilder 146 5 B b bs w) :
    Calls Tryz.prog 142 #[.pointer (some ⟨b, 0, none⟩)] w fun e w' => e = .returned (.tuple #[]) ∧ (Lib.BuilderAt 146 5 B b (.pointer (some ⟨b, 0, none⟩)) bs w' ∧ Below B w w') := by
  rcases h with h | h
  · refine (copyCheck_fresh b w h.cell0 h.shape h.frozen0).mono ?_
    rintro e w' ⟨rfl, rfl⟩
    exact ⟨rfl, h.used _, (Below.refl B w).setCell (p := ⟨b, 0, none⟩) h.1 _⟩
  · refine (copyCheck_used b w h.cell0).mono ?_
    rintro e w' ⟨rfl, rfl⟩
    exact ⟨rfl, h, Below.refl B _⟩
theorem writeString_any (B b : Nat) (bs : List Value) (s : ByteArray) (w : World) (h : Lib.IsBuilder 146 5 B b bs w) (hlen : bs.length + s.size ≤ 140737488355328) (hBw : B ≤ w.heap.size) :
    Calls Tryz.prog 112 #[.pointer (some ⟨b, 0, none⟩), .string s] w fun e w' => e = .returned (.tuple #[.int .i64 s.size, .nilIface]) ∧ (Lib.BuilderAt 146 5 B b (.pointer (some ⟨b, 0, none⟩)) (bs ++ Lib.strCells s) w' ∧ Below B w w') := by
  obtain ⟨i0, hi, hz0, hz1, hz2⟩ := info_parts Tryz.Builder_Extra_169.infoByte
  have CC := Lib.hid (copyCheck_any B b bs w h)
  go_enter Tryz.func112, Tryz.ntmps112
  go_wp2_with fail
  refine CC.out.mono ?_
  rintro e w1 ⟨rfl, h1, hb1⟩
  obtain ⟨hB, v, hbk, hown, hne⟩ := h1
  have c0 : w1.cell? ⟨b, 0, none⟩ = some (.pointer (some ⟨b, 0, none⟩)) := by rw [Lib.cell_of_heap hbk]; rfl
  have c1 : w1.cell? ⟨b, 1, none⟩ = some v := by rw [Lib.cell_of_heap hbk]; rfl
  go_wp2_with (at_builtin; refine Lib.wpList_append_own_string _ rfl _ _ 137 9 rfl B 5 i0 Tryz.underlying137 Tryz.underlying9 hi hz0 hz1 hz2 _ _ _ rfl hown s rfl ?c3 ?c4 ?c5 ?_)
  case c3 => unfold maxLen; omega
  case c4 => omega
  case c5 => have := hb1.size; omega
  intro v' w2 hown' hgrow _
  have hlt : b < w1.heap.size := lt_of_block hbk
  have hb2 : w2.heap[b]? = some (.cells #[.pointer (some ⟨b, 0, none⟩), v] 146 (0, 0)) := by
    rw [hgrow.block b hlt (fun e => hne e.symm)]
    exact hbk
  have d0 : w2.cell? ⟨b, 0, none⟩ = some (.pointer (some ⟨b, 0, none⟩)) := by rw [Lib.cell_of_heap hb2]; rfl
  have d1 : w2.cell? ⟨b, 1, none⟩ = some v := by rw [Lib.cell_of_heap hb2]; rfl
  have f1 : w2.frozen? ⟨b, 1, none⟩ = false := Lib.frozen_of_heap hb2 1
  obtain ⟨ao, n', cap, rfl⟩ : ∃ ao n' cap, v' = .slice ao n' cap := by
    rcases hown'.2 with ⟨hv, _⟩ | ⟨g, cap, cur, hv, _⟩
    · exact ⟨_, _, _, hv⟩
    · exact ⟨_, _, _, hv⟩
  go_wp2
  go_ret2
  refine ⟨rfl, ?_, ?_⟩
  · exact Lib.BuilderAt.put (T := 146) (e := 5) hB hb2 (bs' := bs ++ Lib.strCells s) (by simpa [Lib.strCells_length] using hown') (by decide)
  · exact (hb1.grown hgrow (by have := hb1.size; omega) (fun k hk => (hown.lt k hk).1)).setCell (p := ⟨b, 1, none⟩) hB _
end Go.Proofs.YtniklmikdkjgiaaGreatDoor
namespace Go.Proofs.YtniklmikdkjgiaaGreatDoor
open Go.RowKit
def Tab (w : World) : Prop := Lib.TabIs Tryz.prog w "internal/strconv.uint64pow10" .u64 Lib.pow10Tab
theorem Tab.keep {w w' : World} (h : Tab w) (hb : Below w.heap.size w w') : Tab w' := Lib.tabBelow_of_tabIs h w' hb
theorem dec_same (n : Nat) : Lib.decDigits n = Dg.dec n := by
  rw [Lib.decDigits, Dg.dec]
  split
  · rfl
  · rw [dec_same (n / 10)]; rfl
termination_by n
decreasing_by omega
theorem itoa_any (n : Nat) (w : World) (hn : n ≤ 9223372036854775807) (h : Tab w) :
    Calls Tryz.prog 113 #[.int .i64 n] w fun e w' => e = .returned (.string ⟨(Dg.dec n).toArray⟩) ∧ Below w.heap.size w w' := by
  refine (Tryz.strconv_Itoa (n : Int) (by omega) (by omega) w h).mono ?_
  rintro e w' ⟨rfl, k, os, rfl⟩
  rw [Lib.itoa_nonneg, dec_same]
  exact ⟨rfl, Lib.below_grow _ _ (Nat.le_refl _) _ _⟩
theorem dec_len : ∀ (k n : Nat), n < 10 ^ k → 0 < k → (Dg.dec n).length ≤ k
  | 0, _, _, h => by omega
  | k + 1, n, h, _ => by
    by_cases h10 : n < 10
    · rw [Dg.dec_one h10]; simp
    · rw [Dg.dec_more h10, List.length_append]
      rw [Nat.pow_succ] at h
      rcases Nat.eq_zero_or_pos k with rfl | hk
      · simp at h; omega
      · have := dec_len k (n / 10) (by omega) hk
        simp; omega
theorem byteCells_app (a b : List UInt8) : Lib.byteCells (a ++ b) = Lib.byteCells a ++ Lib.byteCells b := List.map_append ..
end Go.Proofs.YtniklmikdkjgiaaGreatDoor
