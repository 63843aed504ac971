/- WALKS: digest.List. -/
import Derived.Test.YtlejeelmlclnkaaGreatDoorQ6
import Derived.Test.YtlejeelmlclnkaaGreatDoorMem
import Derived.Lib.AppendIntMem
import Derived.Lib.ItoaMem
import Derived.Laws.Concat
set_option linter.unusedSimpArgs false
set_option linter.unusedVariables false
namespace Go.Proofs.YtlejeelmlclnkaaGreatDoor
open Go.RowKit

/-- strconv's table, as the list of the row names it -/
def Tab (w : World) : Prop := Lib.TabIs Tryz.prog w "internal/strconv.uint64pow10" .u64 Lib.pow10Tab
theorem Tab.keep {w w' : World} (h : Tab w) (hb : Below w.heap.size w w') : Tab w' := Lib.tabBelow_of_tabIs h w' hb
theorem dec_same (n : Nat) : Lib.decDigits n = Dg.dec n := by
  rw [Lib.decDigits, Dg.dec]
  split
  · rfl
  · rw [dec_same (n / 10)]; rfl
termination_by n
decreasing_by omega
theorem itoa_any (n : Nat) (w : World) (hn : n ≤ 9223372036854775807) (h : Tab w) :
    Calls Tryz.prog 92 #[.int .i64 n] w fun e w' => e = .returned (.string ⟨(Dg.dec n).toArray⟩) ∧ Below w.heap.size w w' := by
  refine (Tryz.strconv_Itoa (n : Int) (by omega) (by omega) w h).mono ?_
  rintro e w' ⟨rfl, k, os, rfl⟩
  rw [Lib.itoa_nonneg, dec_same]
  exact ⟨rfl, Lib.below_grow _ _ (Nat.le_refl _) _ _⟩
theorem builder_keep {b B : Nat} {bs : List Value} {w w' : World} (h : Lib.IsBuilder 114 5 B b bs w) (hb : Below w.heap.size w w') : Lib.IsBuilder 114 5 B b bs w' := by
  have key : ∀ p, Lib.BuilderAt 114 5 B b p bs w → Lib.BuilderAt 114 5 B b p bs w' := fun p hp => by
    obtain ⟨hB, v, hbk, hown, hne⟩ := hp
    exact ⟨hB, v, (hb.block b (lt_of_block hbk)).trans hbk, own_below hown hb (Nat.le_refl _), hne⟩
  exact h.elim (fun x => .inl (key _ x)) (fun x => .inr (key _ x))
def bys (l : List ByteArray) : List (List UInt8) := l.map (·.data.toList)
theorem dec_len : ∀ (k n : Nat), n < 10 ^ k → 0 < k → (Dg.dec n).length ≤ k
  | 0, _, _, h => by omega
  | k + 1, n, h, _ => by
    by_cases h10 : n < 10
    · rw [Dg.dec_one h10]; simp
    · rw [Dg.dec_more h10, List.length_append]
      rw [Nat.pow_succ] at h
      rcases Nat.eq_zero_or_pos k with rfl | hk
      · simp at h; omega
      · have := dec_len k (n / 10) (by omega) hk
        simp; omega
theorem joined_take {l : List ByteArray} {k : Nat} (hk : k < l.length) : Dg.joined (bys (l.take (k + 1))) = Dg.joined (bys (l.take k)) ++ (Dg.dec l[k].size ++ 58 :: l[k].data.toList) := by
  unfold bys Dg.joined
  rw [List.take_succ_eq_append_getElem hk, List.map_append, List.flatMap_append]
  congr 1
  simp only [List.map_cons, List.map_nil, List.flatMap_cons, List.flatMap_nil, List.append_nil, Dg.elem]
  rw [← Lib.size_eq]
theorem joined_size {l : List ByteArray} (hs : ∀ s ∈ l, s.size ≤ 300) : ∀ k, k ≤ l.length → (Dg.joined (bys (l.take k))).length ≤ k * 310 := by
  intro k
  induction k with
  | zero => intro _; simp [bys, Dg.joined]
  | succ k ih =>
    intro hk
    rw [joined_take (by omega), List.length_append, List.length_append, List.length_cons]
    have h1 := ih (by omega)
    have h2 := hs _ (List.getElem_mem (show k < l.length by omega))
    have h3 := dec_len 4 l[k].size (by omega) (by decide)
    rw [← Lib.size_eq]
    omega
theorem cat3 (a : List UInt8) (s : ByteArray) : ((⟨a.toArray⟩ : ByteArray) ++ (⟨#[58]⟩ : ByteArray) ++ s) = ⟨(a ++ 58 :: s.data.toList).toArray⟩ := by
  apply ByteArray.ext
  simp [ByteArray.data_append]
theorem size_mk (l : List UInt8) : (⟨l.toArray⟩ : ByteArray).size = l.length := by rw [Lib.size_eq]
theorem strCells_of (l : List UInt8) : Lib.strCells ⟨l.toArray⟩ = Lib.byteCells l := rfl
theorem byteCells_app (a b : List UInt8) : Lib.byteCells (a ++ b) = Lib.byteCells a ++ Lib.byteCells b := List.map_append ..

set_option maxHeartbeats 2000000 in
set_option maxRecDepth 100000 in
theorem list_any (A : Option Addr) (n c : Nat) (l : List ByteArray) (w : World) (hn : n = l.length) (hlen : l.length ≤ 3000) (hs : ∀ s ∈ l, s.size ≤ 300) (ht : Tab w) (h : Rd w A (l.map Value.string)) :
    Calls Tryz.prog 56 #[.slice A n c] w fun e w' => e = .returned (.string ⟨(Dg.sumL (Dg.joined (bys l))).toArray⟩) ∧ Below w.heap.size w w' := by
  subst hn
  have H := Lib.hid h; clear h
  have HT := Lib.hid ht; clear ht
  have HS := Lib.hid hs; clear hs
  obtain ⟨b, hb⟩ : ∃ b, w.heap.size = b := ⟨_, rfl⟩
  obtain ⟨W, hW⟩ : ∃ W, W = w.alloc (.cells #[.pointer none, .slice none 0 0] 114) := ⟨_, rfl⟩
  have HB : Hid (Below w.heap.size w W) := Lib.hid (by rw [hW]; exact (Below.refl _ _).alloc (Nat.le_refl _) _)
  have HI : Hid (Lib.IsBuilder 114 5 b b (Lib.byteCells (Dg.joined (bys (l.take 0)))) W) := Lib.hid (by rw [hW, ← hb]; exact Lib.fresh_isBuilder _ _ _)
  go_enter Tryz.func56, Tryz.ntmps56
  go_wp2_with fail
  rw [← hW]
  clear hW
  go_loopw [8] (fun i wr => ∃ k : Nat, k ≤ l.length ∧ i = .int .i64 k ∧ Hid (Lib.IsBuilder 114 5 b b (Lib.byteCells (Dg.joined (bys (l.take k)))) wr) ∧ Hid (Below w.heap.size w wr)) (fun i _ => l.length - (intOf i).toNat)
  case atStart => exact ⟨0, Nat.zero_le _, rfl, HI, HB⟩
  case round =>
    clear HI HB
    obtain ⟨k, hk, rfl, hbu, hbl⟩ := hrel
    by_cases hlt : k < l.length
    · have RD := Lib.hid (H.out.below hbl.out)
      obtain ⟨b0, off, rfl, hb0, hc⟩ := RD.out.map_at hlt
      have d1 : decide ((k : Int) < (l.length : Int)) = true := by simp; omega
      have JT := Lib.hid (joined_take hlt)
      have JS := Lib.hid (joined_size HS.out k hk)
      have LS := Lib.hid (HS.out _ (List.getElem_mem hlt))
      have DL := Lib.hid (dec_len 4 l[k].size (by have := LS.out; omega) (by decide))
      generalize l[k] = s at *
      have ls := LS.out
      go_wp2_with fail
      refine (itoa_any s.size wr (by omega) (HT.out.keep hbl.out)).mono ?_
      rintro e w1 ⟨rfl, hb1⟩
      have B1 := Lib.hid (hbl.out.trans (hb1.mono hbl.out.size))
      have U1 := Lib.hid (builder_keep hbu.out hb1)
      clear hb1
      have z1 := size_mk (Dg.dec s.size)
      have a1 := run_string_add_sum (P := Tryz.prog) w1 ⟨(Dg.dec s.size).toArray⟩ ⟨#[58]⟩ (by rw [z1]; have := DL.out; show _ + 1 ≤ _; omega)
      have a2 := run_string_add_sum (P := Tryz.prog) w1 (⟨(Dg.dec s.size).toArray⟩ ++ ⟨#[58]⟩) s (by rw [ByteArray.size_append, z1]; have := DL.out; show _ + 1 + _ ≤ _; omega)
      go_wp2_with fail
      rw [cat3]
      refine (writeString_any b b _ _ _ U1.out (by have := JS.out; have := DL.out; rw [Lib.byteCells, List.length_map, size_mk, List.length_append, List.length_cons, ← Lib.size_eq]; omega) (by have := B1.out.size; omega)).mono ?_
      rintro e w2 ⟨rfl, hu2, hb2⟩
      have U2 : Hid (Lib.IsBuilder 114 5 b b (Lib.byteCells (Dg.joined (bys (l.take (k + 1))))) w2) := Lib.hid (.inr (by rw [JT.out, byteCells_app]; exact hu2))
      have B2 := Lib.hid (B1.out.trans (by rw [hb]; exact hb2)); clear hu2 hb2 a1 a2
      go_wp2_with fail
      exact ⟨⟨k + 1, by omega, by go_num, U2, B2⟩, by simp [intOf]; omega⟩
    · have hkl : k = l.length := by omega
      subst hkl
      have d1 : decide ((l.length : Int) < (l.length : Int)) = false := by simp
      have JS := Lib.hid (joined_size HS.out l.length hk)
      rw [List.take_length] at hbu JS
      have SZ := size_mk (Dg.joined (bys l))
      go_wp2_with fail
      refine (Tryz.Builder_String_any b b _ _ hbu.out (by have := hbl.out.size; omega)).mono ?_
      rintro e w1 ⟨rfl, hb1⟩
      have B1 := Lib.hid (hbl.out.trans (by rw [hb]; exact hb1)); clear hb1
      go_wp2_with fail
      refine (sum_any _ w1 (by have := JS.out; omega)).mono ?_
      rintro e w2 ⟨rfl, hb2⟩
      have B2 := Lib.hid (B1.out.trans (hb2.mono B1.out.size)); clear hb2
      go_wp2_with fail
      go_ret
      exact ⟨rfl, B2.out⟩
end Go.Proofs.YtlejeelmlclnkaaGreatDoor
