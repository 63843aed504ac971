/- WALKS: a block is taken up (the closure of digest.Sum). -/
import Derived.Test.YtlejeelmlclnkaaGreatDoorQ1
import Derived.Test.YtlejeelmlclnkaaGreatDoorQB
import Derived.Lib.SlBuf
import Derived.Lib.BufferWrite
set_option linter.unusedSimpArgs false
set_option linter.unusedVariables false
namespace Go.Proofs.YtlejeelmlclnkaaGreatDoor
open Go.RowKit

def pad8 (l : List UInt8) : List UInt8 := l ++ List.replicate (8 - l.length) 0
theorem pad8_len {l : List UInt8} (h : l.length ≤ 8) : (pad8 l).length = 8 := by unfold pad8; simp; omega
theorem be_zeros (l : List UInt8) : ∀ k, Dg.be (l ++ List.replicate k 0) = Dg.be l * 256 ^ k
  | 0 => by simp
  | k + 1 => by
    rw [List.replicate_succ', ← List.append_assoc, Dg.be_snoc, be_zeros l k, Nat.pow_succ, ← Nat.mul_assoc, show (0 : UInt8).toNat = 0 from rfl, Nat.add_zero]
theorem be_pad {l : List UInt8} : Dg.be (pad8 l) = Dg.blk l := by unfold pad8; rw [be_zeros, Dg.blk]
theorem be_take {l : List UInt8} {k : Nat} (h : k < l.length) : Dg.be (l.take (k + 1)) = Dg.be (l.take k) * 256 + l[k].toNat := by
  rw [List.take_succ_eq_append_getElem h, Dg.be_snoc]
theorem be_bound {l : List UInt8} {k : Nat} (h : k < 8) : Dg.be (l.take k) < 72057594037927936 := by
  have h1 := Dg.be_lt (l.take k)
  have h2 : 256 ^ (l.take k).length ≤ 256 ^ 7 := Nat.pow_le_pow_right (by decide) (by rw [List.length_take]; omega)
  have h3 : (256 : Nat) ^ 7 = 72057594037927936 := by decide
  rw [h3] at h2
  exact Nat.lt_of_lt_of_le h1 h2
theorem or_byte (n b : Nat) (hn : n < 72057594037927936) (hb : b < 256) : bits .or .u64 ((n : Int) * 256) (b : Int) = (n : Int) * 256 + (b : Int) := by
  have h := bits_or_u64_nat (n * 256) b (by omega) (by omega)
  have h2 := Nat.shiftLeft_add_eq_or_of_lt (show b < 2 ^ 8 by simpa using hb) n
  rw [Nat.shiftLeft_eq, show (2 : Nat) ^ 8 = 256 from rfl] at h2
  rw [← h2] at h
  rw [Int.natCast_mul, Int.natCast_add, Int.natCast_mul] at h
  exact h
theorem xor_step (s n : Nat) (hs : s < Dg.M) (hn : n < Dg.M) : bits .xor .u64 (s : Int) (n : Int) = ((s ^^^ n : Nat) : Int) := bits_xor_u64_nat s n hs hn

theorem row_pad (s : ByteArray) (hs : s.size ≤ 8) : ((#[.int .u8 0, .int .u8 0, .int .u8 0, .int .u8 0, .int .u8 0, .int .u8 0, .int .u8 0, .int .u8 0] : Array Value).toList.take 0 ++ Lib.byteCells s.data.toList ++ (#[.int .u8 0, .int .u8 0, .int .u8 0, .int .u8 0, .int .u8 0, .int .u8 0, .int .u8 0, .int .u8 0] : Array Value).toList.drop (0 + s.size)) = Lib.byteCells (pad8 s.data.toList) := by
  have hl : s.data.toList.length = s.size := (Lib.size_eq s).symm
  have e : (#[.int .u8 0, .int .u8 0, .int .u8 0, .int .u8 0, .int .u8 0, .int .u8 0, .int .u8 0, .int .u8 0] : Array Value).toList = List.replicate 8 (Value.int .u8 0) := rfl
  rw [e, List.take_zero, List.nil_append, Nat.zero_add, List.drop_replicate]
  unfold Lib.byteCells pad8
  rw [List.map_append, List.map_replicate, hl]
  rfl
theorem bytes_at {l : List UInt8} {k : Nat} (h : k < l.length) : (Lib.byteCells l).toArray[k]? = some (.int .u8 (l[k].toNat : Int)) := by
  unfold Lib.byteCells; simp [h]
theorem one_put {w : World} {g : Nat} {v : Value} {t : TypeId} (h : w.heap[g]? = some (.cells #[v] t (0, 0))) (u : Value) : (w.setCell ⟨g, 0, none⟩ u).heap[g]? = some (.cells #[u] t (0, 0)) := by simp [World.setCell, Array.getElem?_modify, h]
set_option maxHeartbeats 4000000 in
theorem take_any (gs st : Nat) (s : ByteArray) (w : World) (hst : st < Dg.M) (hs : s.size ≤ 8) (hc : w.heap[gs]? = some (.cells #[.int .u64 (st : Int)] 87 (0, 0))) :
    Calls Tryz.prog 60 #[.string s, .pointer (some ⟨gs, 0, none⟩)] w fun e w' => e = .returned (.tuple #[]) ∧ w'.heap[gs]? = some (.cells #[.int .u64 ((Dg.step st s.data.toList : Nat) : Int)] 87 (0, 0)) ∧ But (· = gs) w w' := by
  have hgs : gs < w.heap.size := lt_of_block hc
  have hgn := heap_alloc_new w (.cells #[.int .u8 0, .int .u8 0, .int .u8 0, .int .u8 0, .int .u8 0, .int .u8 0, .int .u8 0, .int .u8 0] 88)
  have hcp := Lib.run_copy_row_string (P := Tryz.prog) (w.alloc (.cells #[.int .u8 0, .int .u8 0, .int .u8 0, .int .u8 0, .int .u8 0, .int .u8 0, .int .u8 0, .int .u8 0] 88)) 85 9 3 5 w.heap.size 0 8 8 s _ _ Tryz.underlying85 (by kernel_rfl) hgn (by simpa using hs) (by simpa using hs)
  rw [row_pad s hs] at hcp
  have hg1 := setRow_heap _ _ _ (Lib.byteCells (pad8 s.data.toList)).toArray _ _ hgn
  have hoth : ∀ k, k ≠ w.heap.size → k < w.heap.size → ((w.alloc (.cells #[.int .u8 0, .int .u8 0, .int .u8 0, .int .u8 0, .int .u8 0, .int .u8 0, .int .u8 0, .int .u8 0] 88)).setRow w.heap.size (Lib.byteCells (pad8 s.data.toList)).toArray).heap[k]? = w.heap[k]? := fun k h1 h2 => (setRow_other _ _ _ _ h1).trans (alloc_old _ _ h2)
  have hb1 : But (· = gs) w ((w.alloc (.cells #[.int .u8 0, .int .u8 0, .int .u8 0, .int .u8 0, .int .u8 0, .int .u8 0, .int .u8 0, .int .u8 0] 88)).setRow w.heap.size (Lib.byteCells (pad8 s.data.toList)).toArray) := ⟨rfl, rfl, rfl, by simp, fun k h1 _ => hoth k (by omega) h1⟩
  have hc1 := (hoth gs (by omega) hgs).trans hc
  obtain ⟨W1, hW⟩ : ∃ W1, W1 = (w.alloc (.cells #[.int .u8 0, .int .u8 0, .int .u8 0, .int .u8 0, .int .u8 0, .int .u8 0, .int .u8 0, .int .u8 0] 88)).setRow w.heap.size (Lib.byteCells (pad8 s.data.toList)).toArray := ⟨_, rfl⟩
  rw [← hW] at hcp hg1 hb1 hc1
  have HP : Hid ((pad8 s.data.toList).length = 8) := Lib.hid (pad8_len (by rw [← Lib.size_eq]; exact hs))
  have HB : Hid (Dg.be (pad8 s.data.toList) = Dg.blk s.data.toList) := Lib.hid be_pad
  have HBL : Hid (Dg.blk s.data.toList < Dg.M) := Lib.hid (Dg.blk_lt (by rw [← Lib.size_eq]; exact hs))
  generalize pad8 s.data.toList = pad at *
  have hC := cell_of_row W1 gs 0 _ _ _ hc1
  have hF := free_blk hc1 0
  have G1 := Lib.hid hg1; have BB := Lib.hid hb1; have C1 := Lib.hid hc1
  simp only [List.getElem?_toArray, List.getElem?_cons_zero] at hC
  clear hgn hoth hg1 hb1 hc1 hc hW
  go_enter Tryz.func60, Tryz.ntmps60
  go_wp2_with fail
  clear hcp
  go_loopw [4, 9] (fun s4 s9 wr => ∃ k : Nat, k ≤ 8 ∧ s9 = .int .i64 k ∧ s4 = .int .u64 ((Dg.be (pad.take k) : Nat) : Int) ∧ wr = W1) (fun _ i _ => 8 - (intOf i).toNat)
  case atStart => exact ⟨0, by omega, rfl, rfl, rfl⟩
  case round =>
    obtain ⟨k, hk, rfl, rfl, rfl⟩ := hrel
    by_cases hlt : k < 8
    · have hkl : k < pad.length := by have := HP.out; omega
      have hcell := (cell_of_row wr w.heap.size k _ _ _ G1.out).trans (bytes_at hkl)
      have ET := Lib.hid (be_take hkl)
      have hn := be_bound (l := pad) (k := k) hlt
      have hb := pad[k].toNat_lt
      generalize pad[k].toNat = b at *
      generalize Dg.be (pad.take k) = n at *
      have w1 : IntKind.u64.wrap ((n : Int) * 256) = (n : Int) * 256 := by rw [IntKind.wrap_u64]; omega
      have w2 := or_byte n b hn (by omega)
      have w3 : IntKind.u64.wrap (b : Int) = (b : Int) := by rw [IntKind.wrap_u64]; omega
      have d1 : decide ((k : Int) < 8) = true := by simp; omega
      go_wp2_with fail
      exact ⟨⟨k + 1, by omega, by go_num, by rw [ET.out]; simp, trivial⟩, by simp [intOf]; omega⟩
    · have hk8 : k = 8 := by omega
      subst hk8
      have e8 : Hid (Dg.be (pad.take 8) = Dg.blk s.data.toList) := Lib.hid (by rw [List.take_of_length_le (by rw [HP.out]; omega), HB.out])
      have ex : bits .xor .u64 (st : Int) ((Dg.be (pad.take 8) : Nat) : Int) = ((st ^^^ Dg.blk s.data.toList : Nat) : Int) := by rw [e8.out]; exact xor_step st _ hst HBL.out
      have MX := Lib.hid (mix_any (st ^^^ Dg.blk s.data.toList) wr (Dg.xor_lt hst HBL.out))
      have ES : Hid (Dg.mix (st ^^^ Dg.blk s.data.toList) = Dg.step st s.data.toList) := Lib.hid rfl
      go_wp2_with fail
      refine MX.out.mono ?_
      rintro e w' ⟨rfl, rfl⟩
      go_wp2_with fail
      refine bodyPost_end (results_none (by rfl) _ _ _) rfl ⟨rfl, ?_, BB.out.set rfl _⟩
      rw [← ES.out]
      exact one_put C1.out _
end Go.Proofs.YtlejeelmlclnkaaGreatDoor
