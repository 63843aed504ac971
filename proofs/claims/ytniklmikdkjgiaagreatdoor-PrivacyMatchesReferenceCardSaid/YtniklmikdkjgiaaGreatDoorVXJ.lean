import Derived.Test.YtniklmikdkjgiaaGreatDoorCXJ
set_option linter.all false
set_option maxHeartbeats 16000000
set_option maxRecDepth 100000
namespace Go.Proofs.YtniklmikdkjgiaaGreatDoor
open Go.RowKit
end Go.Proofs.YtniklmikdkjgiaaGreatDoor
namespace Go.Proofs.YtniklmikdkjgiaaGreatDoor
open Go.RowKit
end Go.Proofs.YtniklmikdkjgiaaGreatDoor
namespace Go.Proofs.YtniklmikdkjgiaaGreatDoor
open Go.RowKit
end Go.Proofs.YtniklmikdkjgiaaGreatDoor
namespace Go.Proofs.YtniklmikdkjgiaaGreatDoor
open Go.RowKit
def rlL (xs : List RL) : List Value := xs.map fun s => .slice s.A s.l.length s.c
def allFewR (xs : List RL) (n : Nat) : Bool := xs.all fun x => fewL (rcsC x.l) n
theorem fewL_gt {l : List RV} {n : Nat} (h : ¬ l.length ≤ n) : fewL (rcsC l) n = false := by unfold fewL rcsC; rw [List.length_map, decide_eq_false h, Bool.false_and]
theorem few49_any (A : Option Addr) (n c : Nat) (xs : List RL) (w : World) (hn : n = xs.length) (hl : n ≤ 100) (h : Rd w A (rlL xs)) (hx : ∀ s ∈ xs, Rw w s.A s.l) :
  Calls Tryz.prog 16 #[.slice A n c] w fun e w' => e = .returned (.bool (allFewR xs 16)) ∧ Below w.heap.size w w' := by
 have H := Lib.hid h
 have HX := Lib.hid hx
 have HN := Lib.hid hn
 clear h hn hx
 obtain ⟨R, hR⟩ : ∃ R, allFewR xs 16 = R := ⟨_, rfl⟩
 have HR : Hid (R = allFewR (xs.drop 0) 16) := Lib.hid hR.symm
 rw [hR]
 clear hR
 go_enter Tryz.func16, Tryz.ntmps16
 go_wp2_with fail
 go_loopw [3] (fun s3 wr => ∃ k : Nat, k ≤ n ∧ s3 = .int .i64 (k : Int) ∧ Hid (R = allFewR (xs.drop k) 16) ∧ Hid (Below w.heap.size w wr)) (fun i _ => n - (intOf i).toNat)
 case atStart => exact ⟨0, Nat.zero_le _, rfl, HR, Lib.hid (Below.refl _ _)⟩
 case round =>
  clear HR
  obtain ⟨k, hkn, rfl, HR, BL⟩ := hrel
  by_cases hlt : k < n
  ·have hkl : k < xs.length := by rw [← HN.out]; exact hlt
   have d1 : (k : Int) < (n : Int) := by omega
   have d2 : (0 : Int) ≤ (k : Int) := by omega
   obtain ⟨b, off, rfl, hbz, c0⟩ := (H.out.below BL.out).map_at (f := fun s : RL => Value.slice s.A s.l.length s.c) hkl
   have HK := HX.out _ (List.getElem_mem hkl)
   have RK : Hid (R = (fewL (rcsC xs[k].l) 16 && allFewR (xs.drop (k + 1)) 16)) := Lib.hid (by rw [HR.out, List.drop_eq_getElem_cons hkl]; rfl)
   clear HR
   generalize xs[k] = s at *
   obtain ⟨A2, c2, l⟩ := s
   dsimp only at c0 HK RK
   have WC0 := fewrs_any A2 l.length c2 l 16 wr rfl (by decide) (HK.below BL.out)
   rw [show ((16 : Nat) : Int) = 16 from rfl] at WC0
   have WC := Lib.hid WC0
   clear WC0
   have GT := Lib.hid (fun h => fewL_gt (l := l) (n := 16) h)
   generalize fewL (rcsC l) 16 = q at *
   generalize l.length = m at *
   clear HK
   by_cases h3 : m ≤ 16
   ·have e3 : decide ((16 : Int) < (m : Int)) = false := by simp; omega
    have f3 : decide (16 < m) = false := by simp; omega
    clear GT
    go_wp2_with fail
    (with_reducible refine WC.out.mono ?_)
    rintro e w1 ⟨rfl, b1⟩
    have B1 := Lib.hid (BL.out.trans (b1.mono BL.out.size))
    clear b1 WC BL
    cases q
    ·have RF : Hid (R = false) := Lib.hid (by rw [RK.out, Bool.false_and])
     clear RK
     go_wp2_with fail
     go_ret
     exact ⟨by rw [RF.out]; rfl, B1.out⟩
    ·have R2 : Hid (R = allFewR (xs.drop (k + 1)) 16) := Lib.hid (by rw [RK.out, Bool.true_and])
     clear RK
     go_wp2_with fail
     exact ⟨⟨k + 1, by omega, by go_num, R2, B1⟩, by simp [intOf]; omega⟩
   ·have e3 : decide ((16 : Int) < (m : Int)) = true := by simp; omega
    have f3 : decide (16 < m) = true := by simp; omega
    have RF : Hid (R = false) := Lib.hid (by rw [RK.out, GT.out h3, Bool.false_and])
    clear RK h3 GT
    go_wp2_with fail
    go_ret
    exact ⟨by rw [RF.out]; rfl, BL.out⟩
  ·have d1 : ¬ (k : Int) < (n : Int) := by omega
   have RT : Hid (R = true) := Lib.hid (by rw [HR.out, List.drop_eq_nil_of_le (by rw [← HN.out]; omega)]; rfl)
   clear HR
   go_wp2_with fail
   go_ret
   exact ⟨by rw [RT.out]; rfl, BL.out⟩
end Go.Proofs.YtniklmikdkjgiaaGreatDoor
