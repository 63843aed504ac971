/- WALKS: the table of the lexer's classes; names (printed by gen_ba.py). -/
import Derived.Test.YtlejeelmlclnkaaGreatDoorQB
import Derived.Test.YtlejeelmlclnkaaGreatDoorQS
import Derived.Test.YtlejeelmlclnkaaGreatDoorAQ
import Derived.WalkLawsBesides
import Derived.Deep.MidRow
import Derived.Deep.DeepCutAuto
import Derived.Laws.Strings
import Derived.WalkKit
import Derived.WalkSpells
import Derived.Deep.QuietTactic
import Derived.BigQuiet
import Derived.IntWalk
import Derived.StillTailTactics
set_option linter.unusedSimpArgs false
set_option linter.unusedVariables false
namespace Go.Proofs.YtlejeelmlclnkaaGreatDoor
open Go.RowKit

def blanksB : ByteArray := ⟨#[32, 9, 10]⟩
def symsB : ByteArray := ⟨#[59, 44, 46, 58, 40, 41, 123, 125, 91, 93, 61, 60, 62, 47, 45]⟩
/-- the class of a byte, the three last ones apart -/
def cls0 (i : Nat) : Nat :=
  if (97 ≤ i ∧ i ≤ 122) ∨ (65 ≤ i ∧ i ≤ 90) then 3 else if 48 ≤ i ∧ i ≤ 57 then 4
  else if 0 ≤ Lib.indexByte blanksB.data.toList i.toUInt8 then 1 else if 0 ≤ Lib.indexByte symsB.data.toList i.toUInt8 then 6 else 0
def clsRow (k : Nat) : Array Value := Array.ofFn (n := 256) fun i => .int .u8 (if i.val < k then (cls0 i.val : Int) else 0)
set_option maxRecDepth 100000 in
theorem clsRow_zero : clsRow 0 = Tryz.zeroCells135 := by
  unfold clsRow
  simp only [Nat.not_lt_zero, if_false]
  kernel_rfl
theorem clsRow_size (k : Nat) : (clsRow k).size = 256 := by simp [clsRow]
theorem clsRow_at {k : Nat} (hk : k < 256) : (clsRow k)[k]? = some (.int .u8 0) := by
  unfold clsRow
  rw [Array.getElem?_ofFn, dif_pos hk]
  simp
theorem clsRow_put {k : Nat} (hk : k < 256) {n : Int} (hn : (cls0 k : Int) = n) : (clsRow k).setIfInBounds k (.int .u8 n) = clsRow (k + 1) := by
  subst hn
  apply Array.ext
  · simp [clsRow]
  · intro i h1 h2
    rw [Array.getElem_setIfInBounds (by rw [Array.size_setIfInBounds] at h1; exact h1)]
    by_cases e : k = i
    · subst e; simp [clsRow]
    · rw [if_neg e]
      simp only [clsRow, Array.getElem_ofFn]
      have : (i < k) ↔ (i < k + 1) := by omega
      simp only [this]
theorem clsRow_keep {k : Nat} (hk : k < 256) (h0 : cls0 k = 0) : clsRow k = clsRow (k + 1) := by
  apply Array.ext
  · simp [clsRow]
  · intro i h1 h2
    simp only [clsRow, Array.getElem_ofFn]
    by_cases e : k = i
    · subst e; simp [h0]
    · have : (i < k) ↔ (i < k + 1) := by omega
      simp only [this]
/-- the class of a byte -/
def clsF (i : Nat) : Nat := if i = 35 then 2 else if i = 95 then 5 else if i = 34 then 7 else cls0 i
def clsTab : Array Value := Array.ofFn (n := 256) fun i => .int .u8 (clsF i.val : Int)
theorem clsTab_eq : (((clsRow 256).setIfInBounds 35 (.int .u8 2)).setIfInBounds 95 (.int .u8 5)).setIfInBounds 34 (.int .u8 7) = clsTab := by
  apply Array.ext
  · simp [clsRow, clsTab]
  · intro i h1 h2
    have hi : i < 256 := by simpa [clsTab] using h2
    simp only [clsTab, Array.getElem_ofFn, clsF]
    rw [Array.getElem_setIfInBounds (by simpa [clsRow] using hi), Array.getElem_setIfInBounds (by simpa [clsRow] using hi), Array.getElem_setIfInBounds (by simpa [clsRow] using hi)]
    simp only [clsRow, Array.getElem_ofFn, hi, if_true]
    by_cases e1 : i = 34
    · subst e1; simp
    · by_cases e2 : i = 95
      · subst e2; simp
      · by_cases e3 : i = 35
        · subst e3; simp
        · simp only [e1, e2, e3, Ne.symm e1, Ne.symm e2, Ne.symm e3, if_false]
theorem row_put8 {w : World} {g k : Nat} {cs : Array Value} {t : TypeId} (h : w.heap[g]? = some (.cells cs t (0, 0))) (u : Value) : (w.setCell ⟨g, k, none⟩ u).heap[g]? = some (.cells (cs.setIfInBounds k u) t (0, 0)) := by simp [World.setCell, Array.getElem?_modify, h]
theorem range_of_row {w : World} {g : Nat} {cs : Array Value} {t : TypeId} (h : w.heap[g]? = some (.cells cs t (0, 0))) : w.rangeAt g 0 cs.toList := fun j v hv => by
  rw [Nat.zero_add]
  exact (cell_of_row w g j _ _ _ h).trans (by simpa using hv)
theorem there_of_row {w : World} {g n : Nat} {cs : Array Value} {t : TypeId} (h : w.heap[g]? = some (.cells cs t (0, 0))) (hn : n ≤ cs.size) : w.there g 0 n := fun j hj => by
  rw [Nat.zero_add]
  refine ⟨?_, free_blk h j⟩
  rw [cell_of_row w g j _ _ _ h, Array.getElem?_eq_getElem (by omega)]; rfl
theorem below_setCells {B : Nat} {w w' : World} (b : Nat) : ∀ (vs : List Value) (o : Nat) (u : World), Below B w u → B ≤ b → Below B w (u.setCells b o vs)
  | [], _, _, h, _ => h
  | v :: vs, o, u, h, hb => below_setCells (w' := w') b vs (o + 1) (u.setCell ⟨b, o, none⟩ v) (h.setCell hb v) hb
theorem range_setCells {g : Nat} {cs old : Array Value} {u : World} {t : TypeId} (h : u.heap[g]? = some (.cells old t (0, 0))) (hs : cs.size = old.size) : (u.setCells g 0 cs.toList).rangeAt g 0 cs.toList := fun j v hv => by
  obtain ⟨hj, e⟩ := List.getElem?_eq_some_iff.1 hv
  rw [World.cell?_setCells_in g cs.toList 0 u (fun i hi => (there_of_row h (Nat.le_of_eq hs) i (by simpa using hi)).1) j hj, e]
theorem results_cell1 {P : Program} {w : World} {fn : Func} {i : Nat} {t : TypeId} {ad : Addr} {tmps : Array Value} {v : Value} (h : fn.results = #[.cell i t]) (hp : tmps.getD i undef = .pointer (some ad)) (hl : (loadVar t ad).run P w = .ok v w) : (results fn tmps).run P w = .ok v w := by
  have hp2 : tmps[i]?.getD undef = .pointer (some ad) := by simpa using hp
  unfold results
  rw [h]
  simp [Array.mapM_eq_mapM_toList, hp2, asAddr, Sem.run_bind, hl]
set_option maxHeartbeats 8000000 in
set_option maxRecDepth 100000 in
theorem classes_any (w : World) : Calls Tryz.prog 113 #[] w fun e w' => e = .returned (.agg clsTab) ∧ Below w.heap.size w w' := by
  obtain ⟨W, hW⟩ : ∃ W, W = (w.alloc (.cells Tryz.zeroCells135 135)).alloc (.cells Tryz.zeroCells135 135) := ⟨_, rfl⟩
  have HR : Hid (W.heap[w.heap.size]? = some (.cells (clsRow 0) 135 (0, 0))) := Lib.hid (by rw [hW, clsRow_zero]; exact (alloc_old _ _ (by simp)).trans (heap_alloc_new w _))
  have HO : Hid (W.heap[w.heap.size + 1]? = some (.cells (clsRow 0) 135 (0, 0))) := Lib.hid (by rw [hW, clsRow_zero]; exact alloc_new' _ _ _ (by simp))
  have HB : Hid (Below w.heap.size w W) := Lib.hid (by rw [hW]; exact ((Below.refl _ _).alloc (Nat.le_refl _) _).alloc (by simp) _)
  have IX := fun (c : Int) u => Lib.hid (Tryz.strings_IndexByte blanksB c u)
  have IY := fun (c : Int) u => Lib.hid (Tryz.strings_IndexByte symsB c u)
  obtain ⟨g, hg⟩ : ∃ g, w.heap.size = g := ⟨_, rfl⟩
  rw [hg] at HR HO
  go_enter Tryz.func113, Tryz.ntmps113
  go_upto_region 2 with fail
  rw [← hW]
  clear hW
  go_wp2_with fail
  go_loopw [4] (fun s4 wr => ∃ k : Nat, k ≤ 256 ∧ s4 = .int .i64 (k : Int) ∧ Hid (wr.heap[g + 1]? = some (.cells (clsRow k) 135 (0, 0))) ∧ Hid (wr.heap[g]? = some (.cells (clsRow 0) 135 (0, 0))) ∧ Hid (Below w.heap.size w wr)) (fun i _ => 256 - (intOf i).toNat)
  case atStart => exact ⟨0, by omega, rfl, HO, HR, HB⟩
  case round =>
    clear HO HR HB
    obtain ⟨k, hk, rfl, ho, hr, hb⟩ := hrel
    by_cases hlt : k < 256
    · have hc := (cell_of_row wr (g + 1) k _ _ _ ho.out).trans (clsRow_at hlt)
      have hf := free_blk ho.out k
      have d1 : (k : Int) < 256 := by omega
      have d0 : (0 : Int) ≤ (k : Int) := by omega
      have w1 : IntKind.u8.wrap (k : Int) = (k : Int) := by simp [IntKind.wrap, IntKind.bits, IntKind.signed]; omega
      have U8 : Hid (((k : Int)).toNat.toUInt8 = k.toUInt8) := Lib.hid (by simp)
      have IXk := fun u => Lib.hid (IX (k : Int) u).out
      have IYk := fun u => Lib.hid (IY (k : Int) u).out
      clear IX IY
      rw [U8.out] at IXk IYk
      rcases (show k ≤ 47 ∨ (48 ≤ k ∧ k ≤ 57) ∨ (58 ≤ k ∧ k ≤ 64) ∨ (65 ≤ k ∧ k ≤ 90) ∨ (91 ≤ k ∧ k ≤ 96) ∨ (97 ≤ k ∧ k ≤ 122) ∨ 123 ≤ k by omega) with z | z | z | z | z | z | z
      · have CV : Hid (cls0 k = if 0 ≤ Lib.indexByte blanksB.data.toList k.toUInt8 then 1 else if 0 ≤ Lib.indexByte symsB.data.toList k.toUInt8 then 6 else 0) := Lib.hid (by unfold cls0; rw [if_neg (by omega), if_neg (by omega)])
        have e97 : decide ((97 : Int) ≤ (k : Int)) = false := by simp; omega
        have f97 : decide (97 ≤ k) = false := by simp; omega
        have e65 : decide ((65 : Int) ≤ (k : Int)) = false := by simp; omega
        have f65 : decide (65 ≤ k) = false := by simp; omega
        have e48 : decide ((48 : Int) ≤ (k : Int)) = false := by simp; omega
        have f48 : decide (48 ≤ k) = false := by simp; omega
        by_cases q1 : 0 ≤ Lib.indexByte blanksB.data.toList k.toUInt8
        · have RP := Lib.hid (clsRow_put hlt (n := 1) (by rw [CV.out, if_pos q1]; rfl))
          generalize Lib.indexByte blanksB.data.toList k.toUInt8 = X at *
          clear IYk CV
          go_wp2_with fail
          refine (IXk _).out.mono ?_
          rintro e wx ⟨rfl, rfl⟩
          go_wp2_with fail
          exact ⟨⟨k + 1, by omega, by go_num, Lib.hid (by rw [← RP.out]; exact row_put8 ho.out _), Lib.hid ((Below.heap_setCell _ _ _ _ (by show g ≠ g + 1; omega)).trans hr.out), Lib.hid (hb.out.setCell (by show w.heap.size ≤ g + 1; omega) _)⟩, by simp [intOf]; omega⟩
        · by_cases q2 : 0 ≤ Lib.indexByte symsB.data.toList k.toUInt8
          · have RP := Lib.hid (clsRow_put hlt (n := 6) (by rw [CV.out, if_neg q1, if_pos q2]; rfl))
            generalize Lib.indexByte blanksB.data.toList k.toUInt8 = X at *
            generalize Lib.indexByte symsB.data.toList k.toUInt8 = Y at *
            have g1 : decide (0 ≤ X) = false := by simpa using q1
            have g2 : decide (0 ≤ Y) = true := by simpa using q2
            clear CV q1 q2
            go_wp2_with fail
            refine (IXk _).out.mono ?_
            rintro e wx ⟨rfl, rfl⟩
            go_wp2_with fail
            refine (IYk _).out.mono ?_
            rintro e wy ⟨rfl, rfl⟩
            go_wp2_with fail
            exact ⟨⟨k + 1, by omega, by go_num, Lib.hid (by rw [← RP.out]; exact row_put8 ho.out _), Lib.hid ((Below.heap_setCell _ _ _ _ (by show g ≠ g + 1; omega)).trans hr.out), Lib.hid (hb.out.setCell (by show w.heap.size ≤ g + 1; omega) _)⟩, by simp [intOf]; omega⟩
          · have RP := Lib.hid (clsRow_keep hlt (by rw [CV.out, if_neg q1, if_neg q2]))
            generalize Lib.indexByte blanksB.data.toList k.toUInt8 = X at *
            generalize Lib.indexByte symsB.data.toList k.toUInt8 = Y at *
            have g1 : decide (0 ≤ X) = false := by simpa using q1
            have g2 : decide (0 ≤ Y) = false := by simpa using q2
            clear CV q1 q2
            go_wp2_with fail
            refine (IXk _).out.mono ?_
            rintro e wx ⟨rfl, rfl⟩
            go_wp2_with fail
            refine (IYk _).out.mono ?_
            rintro e wy ⟨rfl, rfl⟩
            go_wp2_with fail
            exact ⟨⟨k + 1, by omega, by go_num, Lib.hid (by rw [← RP.out]; exact ho.out), Lib.hid (hr.out), Lib.hid (hb.out)⟩, by simp [intOf]; omega⟩
      · have CV : Hid (cls0 k = 4) := Lib.hid (by unfold cls0; rw [if_neg (by omega), if_pos (by omega)])
        have e97 : decide ((97 : Int) ≤ (k : Int)) = false := by simp; omega
        have f97 : decide (97 ≤ k) = false := by simp; omega
        have e65 : decide ((65 : Int) ≤ (k : Int)) = false := by simp; omega
        have f65 : decide (65 ≤ k) = false := by simp; omega
        have e48 : decide ((48 : Int) ≤ (k : Int)) = true := by simp; omega
        have f48 : decide (48 ≤ k) = true := by simp; omega
        have e57 : decide ((k : Int) ≤ 57) = true := by simp; omega
        have f57 : decide (k ≤ 57) = true := by simp; omega
        have RP := Lib.hid (clsRow_put hlt (n := 4) (by rw [CV.out]; rfl))
        clear IXk IYk
        go_wp2_with fail
        exact ⟨⟨k + 1, by omega, by go_num, Lib.hid (by rw [← RP.out]; exact row_put8 ho.out _), Lib.hid ((Below.heap_setCell _ _ _ _ (by show g ≠ g + 1; omega)).trans hr.out), Lib.hid (hb.out.setCell (by show w.heap.size ≤ g + 1; omega) _)⟩, by simp [intOf]; omega⟩
      · have CV : Hid (cls0 k = if 0 ≤ Lib.indexByte blanksB.data.toList k.toUInt8 then 1 else if 0 ≤ Lib.indexByte symsB.data.toList k.toUInt8 then 6 else 0) := Lib.hid (by unfold cls0; rw [if_neg (by omega), if_neg (by omega)])
        have e97 : decide ((97 : Int) ≤ (k : Int)) = false := by simp; omega
        have f97 : decide (97 ≤ k) = false := by simp; omega
        have e65 : decide ((65 : Int) ≤ (k : Int)) = false := by simp; omega
        have f65 : decide (65 ≤ k) = false := by simp; omega
        have e48 : decide ((48 : Int) ≤ (k : Int)) = true := by simp; omega
        have f48 : decide (48 ≤ k) = true := by simp; omega
        have e57 : decide ((k : Int) ≤ 57) = false := by simp; omega
        have f57 : decide (k ≤ 57) = false := by simp; omega
        by_cases q1 : 0 ≤ Lib.indexByte blanksB.data.toList k.toUInt8
        · have RP := Lib.hid (clsRow_put hlt (n := 1) (by rw [CV.out, if_pos q1]; rfl))
          generalize Lib.indexByte blanksB.data.toList k.toUInt8 = X at *
          clear IYk CV
          go_wp2_with fail
          refine (IXk _).out.mono ?_
          rintro e wx ⟨rfl, rfl⟩
          go_wp2_with fail
          exact ⟨⟨k + 1, by omega, by go_num, Lib.hid (by rw [← RP.out]; exact row_put8 ho.out _), Lib.hid ((Below.heap_setCell _ _ _ _ (by show g ≠ g + 1; omega)).trans hr.out), Lib.hid (hb.out.setCell (by show w.heap.size ≤ g + 1; omega) _)⟩, by simp [intOf]; omega⟩
        · by_cases q2 : 0 ≤ Lib.indexByte symsB.data.toList k.toUInt8
          · have RP := Lib.hid (clsRow_put hlt (n := 6) (by rw [CV.out, if_neg q1, if_pos q2]; rfl))
            generalize Lib.indexByte blanksB.data.toList k.toUInt8 = X at *
            generalize Lib.indexByte symsB.data.toList k.toUInt8 = Y at *
            have g1 : decide (0 ≤ X) = false := by simpa using q1
            have g2 : decide (0 ≤ Y) = true := by simpa using q2
            clear CV q1 q2
            go_wp2_with fail
            refine (IXk _).out.mono ?_
            rintro e wx ⟨rfl, rfl⟩
            go_wp2_with fail
            refine (IYk _).out.mono ?_
            rintro e wy ⟨rfl, rfl⟩
            go_wp2_with fail
            exact ⟨⟨k + 1, by omega, by go_num, Lib.hid (by rw [← RP.out]; exact row_put8 ho.out _), Lib.hid ((Below.heap_setCell _ _ _ _ (by show g ≠ g + 1; omega)).trans hr.out), Lib.hid (hb.out.setCell (by show w.heap.size ≤ g + 1; omega) _)⟩, by simp [intOf]; omega⟩
          · have RP := Lib.hid (clsRow_keep hlt (by rw [CV.out, if_neg q1, if_neg q2]))
            generalize Lib.indexByte blanksB.data.toList k.toUInt8 = X at *
            generalize Lib.indexByte symsB.data.toList k.toUInt8 = Y at *
            have g1 : decide (0 ≤ X) = false := by simpa using q1
            have g2 : decide (0 ≤ Y) = false := by simpa using q2
            clear CV q1 q2
            go_wp2_with fail
            refine (IXk _).out.mono ?_
            rintro e wx ⟨rfl, rfl⟩
            go_wp2_with fail
            refine (IYk _).out.mono ?_
            rintro e wy ⟨rfl, rfl⟩
            go_wp2_with fail
            exact ⟨⟨k + 1, by omega, by go_num, Lib.hid (by rw [← RP.out]; exact ho.out), Lib.hid (hr.out), Lib.hid (hb.out)⟩, by simp [intOf]; omega⟩
      · have CV : Hid (cls0 k = 3) := Lib.hid (by unfold cls0; rw [if_pos (by omega)])
        have e97 : decide ((97 : Int) ≤ (k : Int)) = false := by simp; omega
        have f97 : decide (97 ≤ k) = false := by simp; omega
        have e65 : decide ((65 : Int) ≤ (k : Int)) = true := by simp; omega
        have f65 : decide (65 ≤ k) = true := by simp; omega
        have e90 : decide ((k : Int) ≤ 90) = true := by simp; omega
        have f90 : decide (k ≤ 90) = true := by simp; omega
        have RP := Lib.hid (clsRow_put hlt (n := 3) (by rw [CV.out]; rfl))
        clear IXk IYk
        go_wp2_with fail
        exact ⟨⟨k + 1, by omega, by go_num, Lib.hid (by rw [← RP.out]; exact row_put8 ho.out _), Lib.hid ((Below.heap_setCell _ _ _ _ (by show g ≠ g + 1; omega)).trans hr.out), Lib.hid (hb.out.setCell (by show w.heap.size ≤ g + 1; omega) _)⟩, by simp [intOf]; omega⟩
      · have CV : Hid (cls0 k = if 0 ≤ Lib.indexByte blanksB.data.toList k.toUInt8 then 1 else if 0 ≤ Lib.indexByte symsB.data.toList k.toUInt8 then 6 else 0) := Lib.hid (by unfold cls0; rw [if_neg (by omega), if_neg (by omega)])
        have e97 : decide ((97 : Int) ≤ (k : Int)) = false := by simp; omega
        have f97 : decide (97 ≤ k) = false := by simp; omega
        have e65 : decide ((65 : Int) ≤ (k : Int)) = true := by simp; omega
        have f65 : decide (65 ≤ k) = true := by simp; omega
        have e90 : decide ((k : Int) ≤ 90) = false := by simp; omega
        have f90 : decide (k ≤ 90) = false := by simp; omega
        have e48 : decide ((48 : Int) ≤ (k : Int)) = true := by simp; omega
        have f48 : decide (48 ≤ k) = true := by simp; omega
        have e57 : decide ((k : Int) ≤ 57) = false := by simp; omega
        have f57 : decide (k ≤ 57) = false := by simp; omega
        by_cases q1 : 0 ≤ Lib.indexByte blanksB.data.toList k.toUInt8
        · have RP := Lib.hid (clsRow_put hlt (n := 1) (by rw [CV.out, if_pos q1]; rfl))
          generalize Lib.indexByte blanksB.data.toList k.toUInt8 = X at *
          clear IYk CV
          go_wp2_with fail
          refine (IXk _).out.mono ?_
          rintro e wx ⟨rfl, rfl⟩
          go_wp2_with fail
          exact ⟨⟨k + 1, by omega, by go_num, Lib.hid (by rw [← RP.out]; exact row_put8 ho.out _), Lib.hid ((Below.heap_setCell _ _ _ _ (by show g ≠ g + 1; omega)).trans hr.out), Lib.hid (hb.out.setCell (by show w.heap.size ≤ g + 1; omega) _)⟩, by simp [intOf]; omega⟩
        · by_cases q2 : 0 ≤ Lib.indexByte symsB.data.toList k.toUInt8
          · have RP := Lib.hid (clsRow_put hlt (n := 6) (by rw [CV.out, if_neg q1, if_pos q2]; rfl))
            generalize Lib.indexByte blanksB.data.toList k.toUInt8 = X at *
            generalize Lib.indexByte symsB.data.toList k.toUInt8 = Y at *
            have g1 : decide (0 ≤ X) = false := by simpa using q1
            have g2 : decide (0 ≤ Y) = true := by simpa using q2
            clear CV q1 q2
            go_wp2_with fail
            refine (IXk _).out.mono ?_
            rintro e wx ⟨rfl, rfl⟩
            go_wp2_with fail
            refine (IYk _).out.mono ?_
            rintro e wy ⟨rfl, rfl⟩
            go_wp2_with fail
            exact ⟨⟨k + 1, by omega, by go_num, Lib.hid (by rw [← RP.out]; exact row_put8 ho.out _), Lib.hid ((Below.heap_setCell _ _ _ _ (by show g ≠ g + 1; omega)).trans hr.out), Lib.hid (hb.out.setCell (by show w.heap.size ≤ g + 1; omega) _)⟩, by simp [intOf]; omega⟩
          · have RP := Lib.hid (clsRow_keep hlt (by rw [CV.out, if_neg q1, if_neg q2]))
            generalize Lib.indexByte blanksB.data.toList k.toUInt8 = X at *
            generalize Lib.indexByte symsB.data.toList k.toUInt8 = Y at *
            have g1 : decide (0 ≤ X) = false := by simpa using q1
            have g2 : decide (0 ≤ Y) = false := by simpa using q2
            clear CV q1 q2
            go_wp2_with fail
            refine (IXk _).out.mono ?_
            rintro e wx ⟨rfl, rfl⟩
            go_wp2_with fail
            refine (IYk _).out.mono ?_
            rintro e wy ⟨rfl, rfl⟩
            go_wp2_with fail
            exact ⟨⟨k + 1, by omega, by go_num, Lib.hid (by rw [← RP.out]; exact ho.out), Lib.hid (hr.out), Lib.hid (hb.out)⟩, by simp [intOf]; omega⟩
      · have CV : Hid (cls0 k = 3) := Lib.hid (by unfold cls0; rw [if_pos (by omega)])
        have e97 : decide ((97 : Int) ≤ (k : Int)) = true := by simp; omega
        have f97 : decide (97 ≤ k) = true := by simp; omega
        have e122 : decide ((k : Int) ≤ 122) = true := by simp; omega
        have f122 : decide (k ≤ 122) = true := by simp; omega
        have RP := Lib.hid (clsRow_put hlt (n := 3) (by rw [CV.out]; rfl))
        clear IXk IYk
        go_wp2_with fail
        exact ⟨⟨k + 1, by omega, by go_num, Lib.hid (by rw [← RP.out]; exact row_put8 ho.out _), Lib.hid ((Below.heap_setCell _ _ _ _ (by show g ≠ g + 1; omega)).trans hr.out), Lib.hid (hb.out.setCell (by show w.heap.size ≤ g + 1; omega) _)⟩, by simp [intOf]; omega⟩
      · have CV : Hid (cls0 k = if 0 ≤ Lib.indexByte blanksB.data.toList k.toUInt8 then 1 else if 0 ≤ Lib.indexByte symsB.data.toList k.toUInt8 then 6 else 0) := Lib.hid (by unfold cls0; rw [if_neg (by omega), if_neg (by omega)])
        have e97 : decide ((97 : Int) ≤ (k : Int)) = true := by simp; omega
        have f97 : decide (97 ≤ k) = true := by simp; omega
        have e122 : decide ((k : Int) ≤ 122) = false := by simp; omega
        have f122 : decide (k ≤ 122) = false := by simp; omega
        have e65 : decide ((65 : Int) ≤ (k : Int)) = true := by simp; omega
        have f65 : decide (65 ≤ k) = true := by simp; omega
        have e90 : decide ((k : Int) ≤ 90) = false := by simp; omega
        have f90 : decide (k ≤ 90) = false := by simp; omega
        have e48 : decide ((48 : Int) ≤ (k : Int)) = true := by simp; omega
        have f48 : decide (48 ≤ k) = true := by simp; omega
        have e57 : decide ((k : Int) ≤ 57) = false := by simp; omega
        have f57 : decide (k ≤ 57) = false := by simp; omega
        by_cases q1 : 0 ≤ Lib.indexByte blanksB.data.toList k.toUInt8
        · have RP := Lib.hid (clsRow_put hlt (n := 1) (by rw [CV.out, if_pos q1]; rfl))
          generalize Lib.indexByte blanksB.data.toList k.toUInt8 = X at *
          clear IYk CV
          go_wp2_with fail
          refine (IXk _).out.mono ?_
          rintro e wx ⟨rfl, rfl⟩
          go_wp2_with fail
          exact ⟨⟨k + 1, by omega, by go_num, Lib.hid (by rw [← RP.out]; exact row_put8 ho.out _), Lib.hid ((Below.heap_setCell _ _ _ _ (by show g ≠ g + 1; omega)).trans hr.out), Lib.hid (hb.out.setCell (by show w.heap.size ≤ g + 1; omega) _)⟩, by simp [intOf]; omega⟩
        · by_cases q2 : 0 ≤ Lib.indexByte symsB.data.toList k.toUInt8
          · have RP := Lib.hid (clsRow_put hlt (n := 6) (by rw [CV.out, if_neg q1, if_pos q2]; rfl))
            generalize Lib.indexByte blanksB.data.toList k.toUInt8 = X at *
            generalize Lib.indexByte symsB.data.toList k.toUInt8 = Y at *
            have g1 : decide (0 ≤ X) = false := by simpa using q1
            have g2 : decide (0 ≤ Y) = true := by simpa using q2
            clear CV q1 q2
            go_wp2_with fail
            refine (IXk _).out.mono ?_
            rintro e wx ⟨rfl, rfl⟩
            go_wp2_with fail
            refine (IYk _).out.mono ?_
            rintro e wy ⟨rfl, rfl⟩
            go_wp2_with fail
            exact ⟨⟨k + 1, by omega, by go_num, Lib.hid (by rw [← RP.out]; exact row_put8 ho.out _), Lib.hid ((Below.heap_setCell _ _ _ _ (by show g ≠ g + 1; omega)).trans hr.out), Lib.hid (hb.out.setCell (by show w.heap.size ≤ g + 1; omega) _)⟩, by simp [intOf]; omega⟩
          · have RP := Lib.hid (clsRow_keep hlt (by rw [CV.out, if_neg q1, if_neg q2]))
            generalize Lib.indexByte blanksB.data.toList k.toUInt8 = X at *
            generalize Lib.indexByte symsB.data.toList k.toUInt8 = Y at *
            have g1 : decide (0 ≤ X) = false := by simpa using q1
            have g2 : decide (0 ≤ Y) = false := by simpa using q2
            clear CV q1 q2
            go_wp2_with fail
            refine (IXk _).out.mono ?_
            rintro e wx ⟨rfl, rfl⟩
            go_wp2_with fail
            refine (IYk _).out.mono ?_
            rintro e wy ⟨rfl, rfl⟩
            go_wp2_with fail
            exact ⟨⟨k + 1, by omega, by go_num, Lib.hid (by rw [← RP.out]; exact ho.out), Lib.hid (hr.out), Lib.hid (hb.out)⟩, by simp [intOf]; omega⟩
    · have hk16 : k = 256 := by omega
      subst hk16
      have ho' := ho.out
      have f1 := free_blk ho.out 35
      have f2 := free_blk (row_put8 ho.out (k := 35) (.int .u8 2)) 95
      have f3 := free_blk (row_put8 (row_put8 ho.out (k := 35) (.int .u8 2)) (k := 95) (.int .u8 5)) 34
      have TB := row_put8 (row_put8 (row_put8 ho.out (k := 35) (.int .u8 2)) (k := 95) (.int .u8 5)) (k := 34) (.int .u8 7)
      rw [clsTab_eq] at TB
      have TBH := Lib.hid TB
      obtain ⟨c1, h1⟩ : ∃ v, wr.cell? ⟨g + 1, 35, none⟩ = some v := ⟨_, (cell_of_row wr (g + 1) 35 _ _ _ ho').trans (Array.getElem?_eq_getElem (by rw [clsRow_size]; omega))⟩
      obtain ⟨c2, h2⟩ : ∃ v, wr.cell? ⟨g + 1, 95, none⟩ = some v := ⟨_, (cell_of_row wr (g + 1) 95 _ _ _ ho').trans (Array.getElem?_eq_getElem (by rw [clsRow_size]; omega))⟩
      obtain ⟨c3, h3⟩ : ∃ v, wr.cell? ⟨g + 1, 34, none⟩ = some v := ⟨_, (cell_of_row wr (g + 1) 34 _ _ _ ho').trans (Array.getElem?_eq_getElem (by rw [clsRow_size]; omega))⟩
      have fz1 := free_blk ho.out 95
      have fz2 := free_blk ho.out 34
      have d1 : decide ((256 : Int) < 256) = false := rfl
      clear ho' TB IX IY
      go_upto_region 17 with fail
      generalize hW2 : ((wr.setCell ⟨g + 1, 35, none⟩ (.int .u8 2)).setCell ⟨g + 1, 95, none⟩ (.int .u8 5)).setCell ⟨g + 1, 34, none⟩ (.int .u8 7) = W2 at *
      have HR2 : W2.heap[g]? = some (.cells (clsRow 0) 135 (0, 0)) := by
        rw [← hW2]
        exact (Below.heap_setCell _ _ _ _ (by show g ≠ g + 1; omega)).trans ((Below.heap_setCell _ _ _ _ (by show g ≠ g + 1; omega)).trans ((Below.heap_setCell _ _ _ _ (by show g ≠ g + 1; omega)).trans hr.out))
      have BW2 : Below w.heap.size w W2 := by
        rw [← hW2]
        exact ((hb.out.setCell (by show w.heap.size ≤ g + 1; omega) _).setCell (by show w.heap.size ≤ g + 1; omega) _).setCell (by show w.heap.size ≤ g + 1; omega) _
      clear hW2 h1 h2 h3 f1 f2 f3
      refine wp_region_lit ?_
      refine wpList_load_mid rfl 135 (.tmp 1) rfl (g + 1) 0 rfl clsTab.toList _ (range_of_row TBH.out) Tryz.underlying135 rfl (by rw [Array.length_toList, show clsTab.size = 256 by simp [clsTab]]; kernel_rfl) ?_
      refine wpList_store_mid rfl 135 (.tmp 0) (.tmp 49) rfl g 0 clsTab rfl rfl (there_of_row HR2 (by rw [clsRow_size]; simp [clsTab])) (by rw [show clsTab.size = 256 by simp [clsTab]]; kernel_rfl) (Array.all_eq_true_iff_forall_mem.2 (fun v hv => by
        simp only [clsTab, Array.mem_ofFn] at hv
        obtain ⟨i, rfl⟩ := hv
        rfl)) ?_
      have RG := range_setCells (cs := clsTab) HR2 (by rw [clsRow_size]; simp [clsTab])
      have BB := below_setCells (w' := W2) g clsTab.toList 0 W2 BW2 (by omega)
      generalize W2.setCells g 0 clsTab.toList = W3 at *
      have LV := run_loadVar_mid W3 g 0 135 clsTab.toList _ RG Tryz.underlying135 rfl (by rw [Array.length_toList, show clsTab.size = 256 by simp [clsTab]]; kernel_rfl)
      simp only [Array.toArray_toList] at LV ⊢
      clear RG TBH BW2 HR2 ho hr hb
      go_simp
      go_wp2_with fail
      refine bodyPost_ret (v := .agg clsTab) (results_cell1 (i := 0) (t := 135) rfl rfl LV) rfl ⟨rfl, BB⟩
theorem tab_at {i : Nat} (h : i < 256) : clsTab[i]? = some (.int .u8 (clsF i : Int)) := by
  unfold clsTab
  rw [Array.getElem?_ofFn, dif_pos h]
end Go.Proofs.YtlejeelmlclnkaaGreatDoor
