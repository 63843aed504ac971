/- WALKS: digest.Is. -/
import Derived.Test.YtlejeelmlclnkaaGreatDoorQ4
set_option linter.unusedSimpArgs false
set_option linter.unusedVariables false
namespace Go.Proofs.YtlejeelmlclnkaaGreatDoor
open Go.RowKit

def hexCs : ByteArray := ⟨#[48, 49, 50, 51, 52, 53, 54, 55, 56, 57, 97, 98, 99, 100, 101, 102]⟩
theorem hex_cs (b : UInt8) : Dg.isHex b = [48, 49, 50, 51, 52, 53, 54, 55, 56, 57, 97, 98, 99, 100, 101, 102].contains b := by
  have key : ∀ n : Fin 256, Dg.isHex (UInt8.ofFin n) = [48, 49, 50, 51, 52, 53, 54, 55, 56, 57, 97, 98, 99, 100, 101, 102].contains (UInt8.ofFin n) := by decide +kernel
  exact key b.toFin
theorem dropw_nil {p : UInt8 → Bool} : ∀ {l : List UInt8}, l.dropWhile p = [] ↔ ∀ x ∈ l, p x = true
  | [] => by simp
  | a :: l => by
    rw [List.dropWhile_cons]
    by_cases h : p a = true
    · rw [if_pos h, dropw_nil]; simp [h]
    · rw [if_neg h]; simp [h]
theorem dropw_mem {p : UInt8 → Bool} {x : UInt8} (hx : p x = false) : ∀ {l : List UInt8}, x ∈ l → x ∈ l.dropWhile p
  | [], h => by cases h
  | a :: l, h => by
    rw [List.dropWhile_cons]
    by_cases ha : p a = true
    · rw [if_pos ha]
      rcases List.mem_cons.1 h with rfl | h2
      · rw [hx] at ha; cases ha
      · exact dropw_mem hx h2
    · rw [if_neg ha]; exact h
theorem trim_empty (l cs : List UInt8) : (Lib.trimS l cs).isEmpty = l.all (cs.contains ·) := by
  rw [Bool.eq_iff_iff, List.isEmpty_iff, List.all_eq_true]
  unfold Lib.trimS Lib.trimLeftS Lib.trimRightS
  rw [dropw_nil]
  constructor
  · intro h x hx
    rcases hp : cs.contains x with _ | _
    · have h2 := h x (by rw [List.mem_reverse]; exact dropw_mem hp (List.mem_reverse.2 hx))
      rw [hp] at h2; exact h2
    · rfl
  · intro h x hx
    rw [List.mem_reverse] at hx
    exact h x (List.mem_reverse.1 ((List.dropWhile_sublist _).mem hx))
theorem isD_trim {s : ByteArray} (h : s.size = 16) : Dg.isD s.data.toList = (Lib.trimS s.data.toList [48, 49, 50, 51, 52, 53, 54, 55, 56, 57, 97, 98, 99, 100, 101, 102]).isEmpty := by
  unfold Dg.isD
  rw [trim_empty, ← Lib.size_eq, h]
  simp only [decide_true, Bool.true_and]
  congr 1
  funext b
  exact hex_cs b
theorem trim_any (s : ByteArray) (w : World) (hs : s.size ≤ 9223372036854775807) :
    Calls Tryz.prog 57 #[.string s, .string hexCs] w fun e w' => e = .returned (.string ⟨(Lib.trimS s.data.toList hexCs.data.toList).toArray⟩) ∧ Below w.heap.size w w' :=
  Any.strings_Trim_laid Tryz.laysTrim160 (by kernel_rfl) s hexCs w hs (by decide) (ascii_of_all (by decide))
theorem is_any (s : ByteArray) (w : World) (hs : s.size ≤ 9223372036854775807) :
    Calls Tryz.prog 20 #[.string s] w fun e w' => e = .returned (.bool (Dg.isD s.data.toList)) ∧ Below w.heap.size w w' := by
  by_cases h16 : s.size = 16
  · have d1 : decide ((s.size : Int) = 16) = true := by simp; omega
    have d2 : ((s.size : Int) == 16) = true := by simp; omega
    have d3 : (s.size == 16) = true := by simp; omega
    have TR := Lib.hid (fun u => trim_any s u hs)
    unfold hexCs at TR
    have H16 := Lib.hid h16; clear h16
    go_enter Tryz.func20, Tryz.ntmps20
    go_wp2_with fail
    refine (TR.out _).mono ?_
    rintro e w1 ⟨rfl, hb1⟩
    go_wp2_with fail
    go_ret
    exact ⟨by rw [isD_trim H16.out]; rfl, hb1⟩
  · have d1 : decide ((s.size : Int) = 16) = false := by simp; omega
    have d2 : ((s.size : Int) == 16) = false := by simp; omega
    have d3 : (s.size == 16) = false := by simp; omega
    have EF := Lib.hid (Dg.isD_long (l := s.data.toList) (by rw [← Lib.size_eq]; exact h16))
    clear h16
    go_enter Tryz.func20, Tryz.ntmps20
    go_wp2_with fail
    go_ret
    exact ⟨by rw [EF.out]; rfl, Below.refl _ _⟩
end Go.Proofs.YtlejeelmlclnkaaGreatDoor
