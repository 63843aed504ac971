import Derived.Test.YtniklmikdkjgiaaGreatDoorcQS
import Derived.Test.YtniklmikdkjgiaaGreatDoorcXA
import Derived.Test.YtniklmikdkjgiaaGreatDoorcXB
import Derived.WalkLawsBesides
import Derived.Deep.MidRow
import Derived.Deep.DeepCutAuto
import Derived.WalkSpells
import Derived.BigQuiet
import Derived.IntWalk
import Derived.StillTailTactics
import Derived.Laws.StructEq
import Derived.Lib.MinMax
set_option linter.all false
set_option maxHeartbeats 16000000
set_option maxRecDepth 100000
namespace Go.Proofs.YtniklmikdkjgiaaGreatDoor
open Go.RowKit
def blanksB : ByteArray := ⟨#[32, 9, 10]⟩
def symsB : ByteArray := ⟨#[59, 44, 46, 58, 40, 41, 123, 125, 91, 93, 61, 60, 62, 47, 45]⟩
def cls0 (i : Nat) : Nat :=
  if (97 ≤ i ∧ i ≤ 122) ∨ (65 ≤ i ∧ i ≤ 90) then 3 else if 48 ≤ i ∧ i ≤ 57 then 4
  else if 0 ≤ Lib.indexByte blanksB.data.toList i.toUInt8 then 1 else if 0 ≤ Lib.indexByte symsB.data.toList i.toUInt8 then 6 else 0
def clsRow (k : Nat) : Array Value := Array.ofFn (n := 256) fun i => .int .u8 (if i.val < k then (cls0 i.val : Int) else 0)
theorem clsRow_zero : clsRow 0 = Tryz.zeroCells156 := by
  unfold clsRow
  simp only [Nat.not_lt_zero, if_false]
  kernel_rfl
theorem clsRow_size (k : Nat) : (clsRow k).size = 256 := by simp [clsRow]
theorem clsRow_at {k : Nat} (hk : k < 256) : (clsRow k)[k]? = some (.int .u8 0) := by
  unfold clsRow
  rw [Array.getElem?_ofFn, dif_pos hk]
  simp
theorem clsRow_put {k : Nat} (hk : k < 256) {n : Int} (hn : (cls0 k : Int) = n) : (clsRow k).setIfInBounds k (.int .u8 n) = clsRow (k + 1) := by
  subst hn
  apply Array.ext
  · simp [clsRow]
  · intro i h1 h2
    rw [Array.getElem_setIfInBounds (by rw [Array.size_setIfInBounds] at h1; exact h1)]
    by_cases e : k = i
    · subst e; simp [clsRow]
    · rw [if_neg e]
      simp only [clsRow, Array.getElem_ofFn]
      have : (i < k) ↔ (i < k + 1) := by omega
      simp only [this]
theorem clsRow_keep {k : Nat} (hk : k < 256) (h0 : cls0 k = 0) : clsRow k = clsRow (k + 1) := by
  apply Array.ext
  · simp [clsRow]
  · intro i h1 h2
    simp only [clsRow, Array.getElem_ofFn]
    by_cases e : k = i
    · subst e; simp [h0]
    · have : (i < k) ↔ (i < k + 1) := by omega
      simp only [this]
def clsF (i : Nat) : Nat := if i = 35 then 2 else if i = 95 then 5 else if i = 34 then 7 else cls0 i
def clsTab : Array Value := Array.ofFn (n := 256) fun i => .int .u8 (clsF i.val : Int)
theorem clsTab_eq : (((clsRow 256).setIfInBounds 35 (.int .u8 2)).setIfInBounds 95 (.int .u8 5)).setIfInBounds 34 (.int .u8 7) = clsTab := by
  apply Array.ext
  · simp [clsRow, clsTab]
  · intro i h1 h2
    have hi : i < 256 := by simpa [clsTab] using h2
    simp only [clsTab, Array.getElem_ofFn, clsF]
    rw [Array.getElem_setIfInBounds (by simpa [clsRow] using hi), Array.getElem_setIfInBounds (by simpa [clsRow] using hi), Array.getElem_setIfInBounds (by simpa [clsRow] using hi)]
    simp only [clsRow, Array.getElem_ofFn, hi, if_true]
    by_cases e1 : i = 34
    · subst e1; simp
    · by_cases e2 : i = 95
      · subst e2; simp
      · by_cases e3 : i = 35
        · subst e3; simp
        · simp only [e1, e2, e3, Ne.symm e1, Ne.symm e2, Ne.symm e3, if_false]
theorem row_put8 {w : World} {g k : Nat} {cs : Array Value} {t : TypeId} (h : w.heap[g]? = some (.cells cs t (0, 0))) (u : Value) : (w.setCell ⟨g, k, none⟩ u).heap[g]? = some (.cells (cs.setIfInBounds k u) t (0, 0)) := by simp [World.setCell, Array.getElem?_modify, h]
theorem range_of_row {w : World} {g : Nat} {cs : Array Value} {t : TypeId} (h : w.heap[g]? = some (.cells cs t (0, 0))) : w.rangeAt g 0 cs.toList := fun j v hv => by
  rw [Nat.zero_add]
  exact (cell_of_row w g j _ _ _ h).trans (by simpa using hv)
theorem there_of_row {w : World} {g n : Nat} {cs : Array Value} {t : TypeId} (h : w.heap[g]? = some (.cells cs t (0, 0))) (hn : n ≤ cs.size) : w.there g 0 n := fun j hj => by
  rw [Nat.zero_add]
  refine ⟨?_, free_blk h j⟩
  rw [cell_of_row w g j _ _ _ h, Array.getElem?_eq_getElem (by omega)]; rfl
theorem below_setCells {B : Nat} {w w' : World} (b : Nat) : ∀ (vs : List Value) (o : Nat) (u : World), Below B w u → B ≤ b → Below B w (u.setCells b o vs)
  | [], _, _, h, _ => h
  | v :: vs, o, u, h, hb => below_setCells (w' := w') b vs (o + 1) (u.setCell ⟨b, o, none⟩ v) (h.setCell hb v) hb
theorem range_setCells {g : Nat} {cs old : Array Value} {u : World} {t : TypeId} (h : u.heap[g]? = some (.cells old t (0, 0))) (hs : cs.size = old.size) : (u.setCells g 0 cs.toList).rangeAt g 0 cs.toList := fun j v hv => by
  obtain ⟨hj, e⟩ := List.getElem?_eq_some_iff.1 hv
  rw [World.cell?_setCells_in g cs.toList 0 u (fun i hi => (there_of_row h (Nat.le_of_eq hs) i (by simpa using hi)).1) j hj, e]
theorem results_cell1 {P : Program} {w : World} {fn : Func} {i : Nat} {t : TypeId} {ad : Addr} {tmps : Array Value} {v : Value} (h : fn.results = #[.cell i t]) (hp : tmps.getD i undef = .pointer (some ad)) (hl : (loadVar t ad).run P w = .ok v w) : (results fn tmps).run P w = .ok v w := by
  have hp2 : tmps[i]?.getD undef = .pointer (some ad) := by simpa using hp
  unfold results
  rw [h]
  simp [Array.mapM_eq_mapM_toList, hp2, asAddr, Sem.run_bind, hl]
theorem classes_any (w : World) : Calls Tryz.prog 121 #[] w fun e w' => e = .returned (.agg clsTab) ∧ Below w.heap.size w w' := by
  obtain ⟨W, hW⟩ : ∃ W, W = (w.alloc (.cells Tryz.zeroCells156 156)).alloc (.cells Tryz.zeroCells156 156) := ⟨_, rfl⟩
  have HR : Hid (W.heap[w.heap.size]? = some (.cells (clsRow 0) 156 (0, 0))) := Lib.hid (by rw [hW, clsRow_zero]; exact (alloc_old _ _ (by simp)).trans (heap_alloc_new w _))
  have HO : Hid (W.heap[w.heap.size + 1]? = some (.cells (clsRow 0) 156 (0, 0))) := Lib.hid (by rw [hW, clsRow_zero]; exact alloc_new' _ _ _ (by simp))
  have HB : Hid (Below w.heap.size w W) := Lib.hid (by rw [hW]; exact ((Below.refl _ _).alloc (Nat.le_refl _) _).alloc (by simp) _)
  have IX := fun (c : Int) u => Lib.hid (Tryz.strings_IndexByte blanksB c u)
  have IY := fun (c : Int) u => Lib.hid (Tryz.strings_IndexByte symsB c u)
  obtain ⟨g, hg⟩ : ∃ g, w.heap.size = g := ⟨_, rfl⟩
  rw [hg] at HR HO
  go_enter Tryz.func121, Tryz.ntmps121
  go_upto_region 2 with fail
  rw [← hW]
  clear hW
  go_wp2_with fail
  go_loopw [4] (fun s4 wr => ∃ k : Nat, k ≤ 256 ∧ s4 = .int .i64 (k : Int) ∧ Hid (wr.heap[g + 1]? = some (.cells (clsRow k) 156 (0, 0))) ∧ Hid (wr.heap[g]? = some (.cells (clsRow 0) 156 (0, 0))) ∧ Hid (Below w.heap.size w wr)) (fun i _ => 256 - (intOf i).toNat)
  case atStart => exact ⟨0, by omega, rfl, HO, HR, HB⟩
  case round =>
    clear HO HR HB
    obtain ⟨k, hk, rfl, ho, hr, hb⟩ := hrel
    by_cases hlt : k < 256
    · have hc := (cell_of_row wr (g + 1) k _ _ _ ho.out).trans (clsRow_at hlt)
      have hf := free_blk ho.out k
      have d1 : (k : Int) < 256 := by omega
      have d0 : (0 : Int) ≤ (k : Int) := by omega
      have w1 : IntKind.u8.wrap (k : Int) = (k : Int) := by simp [IntKind.wrap, IntKind.bits, IntKind.signed]; omega
      have U8 : Hid (((k : Int)).toNat.toUInt8 = k.toUInt8) := Lib.hid (by simp)
      have IXk := fun u => Lib.hid (IX (k : Int) u).out
      have IYk := fun u => Lib.hid (IY (k : Int) u).out
      clear IX IY
      rw [U8.out] at IXk IYk
      rcases (show k ≤ 47 ∨ (48 ≤ k ∧ k ≤ 57) ∨ (58 ≤ k ∧ k ≤ 64) ∨ (65 ≤ k ∧ k ≤ 90) ∨ (91 ≤ k ∧ k ≤ 96) ∨ (97 ≤ k ∧ k ≤ 122) ∨ 123 ≤ k by omega) with z | z | z | z | z | z | z
      · have CV : Hid (cls0 k = if 0 ≤ Lib.indexByte blanksB.data.toList k.toUInt8 then 1 else if 0 ≤ Lib.indexByte symsB.data.toList k.toUInt8 then 6 else 0) := Lib.hid (by unfold cls0; rw [if_neg (by omega), if_neg (by omega)])
        have e97 : decide ((97 : Int) ≤ (k : Int)) = false := by simp; omega
        have f97 : decide (97 ≤ k) = false := by simp; omega
        have e65 : decide ((65 : Int) ≤ (k : Int)) = false := by simp; omega
        have f65 : decide (65 ≤ k) = false := by simp; omega
        have e48 : decide ((48 : Int) ≤ (k : Int)) = false := by simp; omega
        have f48 : decide (48 ≤ k) = false := by simp; omega
        by_cases q1 : 0 ≤ Lib.indexByte blanksB.data.toList k.toUInt8
        · have RP := Lib.hid (clsRow_put hlt (n := 1) (by rw [CV.out, if_pos q1]; rfl))
          generalize Lib.indexByte blanksB.data.toList k.toUInt8 = X at *
          clear IYk CV
          go_wp2_with fail
          refine (IXk _).out.mono ?_
          rintro e wx ⟨rfl, rfl⟩
          go_wp2_with fail
          exact ⟨⟨k + 1, by omega, by go_num, Lib.hid (by rw [← RP.out]; exact row_put8 ho.out _), Lib.hid ((Below.heap_setCell _ _ _ _ (by show g ≠ g + 1; omega)).trans hr.out), Lib.hid (hb.out.setCell (by show w.heap.size ≤ g + 1; omega) _)⟩, by simp [intOf]; omega⟩
        · by_cases q2 : 0 ≤ Lib.indexByte symsB.data.toList k.toUInt8
          · have RP := Lib.hid (clsRow_put hlt (n := 6) (by rw [CV.out, if_neg q1, if_pos q2]; rfl))
            generalize Lib.indexByte blanksB.data.toList k.toUInt8 = X at *
            generalize Lib.indexByte symsB.data.toList k.toUInt8 = Y at *
            have g1 : decide (0 ≤ X) = false := by simpa using q1
            have g2 : decide (0 ≤ Y) = true := by simpa using q2
            clear CV q1 q2
            go_wp2_with fail
            refine (IXk _).out.mono ?_
            rintro e wx ⟨rfl, rfl⟩
            go_wp2_with fail
            refine (IYk _).out.mono ?_
            rintro e wy ⟨rfl, rfl⟩
            go_wp2_with fail
            exact ⟨⟨k + 1, by omega, by go_num, Lib.hid (by rw [← RP.out]; exact row_put8 ho.out _), Lib.hid ((Below.heap_setCell _ _ _ _ (by show g ≠ g + 1; omega)).trans hr.out), Lib.hid (hb.out.setCell (by show w.heap.size ≤ g + 1; omega) _)⟩, by simp [intOf]; omega⟩
          · have RP := Lib.hid (clsRow_keep hlt (by rw [CV.out, if_neg q1, if_neg q2]))
            generalize Lib.indexByte blanksB.data.toList k.toUInt8 = X at *
            generalize Lib.indexByte symsB.data.toList k.toUInt8 = Y at *
            have g1 : decide (0 ≤ X) = false := by simpa using q1
            have g2 : decide (0 ≤ Y) = false := by simpa using q2
            clear CV q1 q2
            go_wp2_with fail
            refine (IXk _).out.mono ?_
            rintro e wx ⟨rfl, rfl⟩
            go_wp2_with fail
            refine (IYk _).out.mono ?_
            rintro e wy ⟨rfl, rfl⟩
            go_wp2_with fail
            exact ⟨⟨k + 1, by omega, by go_num, Lib.hid (by rw [← RP.out]; exact ho.out), Lib.hid (hr.out), Lib.hid (hb.out)⟩, by simp [intOf]; omega⟩
      · have CV : Hid (cls0 k = 4) := Lib.hid (by unfold cls0; rw [if_neg (by omega), if_pos (by omega)])
        have e97 : decide ((97 : Int) ≤ (k : Int)) = false := by simp; omega
        have f97 : decide (97 ≤ k) = false := by simp; omega
        have e65 : decide ((65 : Int) ≤ (k : Int)) = false := by simp; omega
        have f65 : decide (65 ≤ k) = false := by simp; omega
        have e48 : decide ((48 : Int) ≤ (k : Int)) = true := by simp; omega
        have f48 : decide (48 ≤ k) = true := by simp; omega
        have e57 : decide ((k : Int) ≤ 57) = true := by simp; omega
        have f57 : decide (k ≤ 57) = true := by simp; omega
        have RP := Lib.hid (clsRow_put hlt (n := 4) (by rw [CV.out]; rfl))
        clear IXk IYk
        go_wp2_with fail
        exact ⟨⟨k + 1, by omega, by go_num, Lib.hid (by rw [← RP.out]; exact row_put8 ho.out _), Lib.hid ((Below.heap_setCell _ _ _ _ (by show g ≠ g + 1; omega)).trans hr.out), Lib.hid (hb.out.setCell (by show w.heap.size ≤ g + 1; omega) _)⟩, by simp [intOf]; omega⟩
      · have CV : Hid (cls0 k = if 0 ≤ Lib.indexByte blanksB.data.toList k.toUInt8 then 1 else if 0 ≤ Lib.indexByte symsB.data.toList k.toUInt8 then 6 else 0) := Lib.hid (by unfold cls0; rw [if_neg (by omega), if_neg (by omega)])
        have e97 : decide ((97 : Int) ≤ (k : Int)) = false := by simp; omega
        have f97 : decide (97 ≤ k) = false := by simp; omega
        have e65 : decide ((65 : Int) ≤ (k : Int)) = false := by simp; omega
        have f65 : decide (65 ≤ k) = false := by simp; omega
        have e48 : decide ((48 : Int) ≤ (k : Int)) = true := by simp; omega
        have f48 : decide (48 ≤ k) = true := by simp; omega
        have e57 : decide ((k : Int) ≤ 57) = false := by simp; omega
        have f57 : decide (k ≤ 57) = false := by simp; omega
        by_cases q1 : 0 ≤ Lib.indexByte blanksB.data.toList k.toUInt8
        · have RP := Lib.hid (clsRow_put hlt (n := 1) (by rw [CV.out, if_pos q1]; rfl))
          generalize Lib.indexByte blanksB.data.toList k.toUInt8 = X at *
          clear IYk CV
          go_wp2_with fail
          refine (IXk _).out.mono ?_
          rintro e wx ⟨rfl, rfl⟩
          go_wp2_with fail
          exact ⟨⟨k + 1, by omega, by go_num, Lib.hid (by rw [← RP.out]; exact row_put8 ho.out _), Lib.hid ((Below.heap_setCell _ _ _ _ (by show g ≠ g + 1; omega)).trans hr.out), Lib.hid (hb.out.setCell (by show w.heap.size ≤ g + 1; omega) _)⟩, by simp [intOf]; omega⟩
        · by_cases q2 : 0 ≤ Lib.indexByte symsB.data.toList k.toUInt8
          · have RP := Lib.hid (clsRow_put hlt (n := 6) (by rw [CV.out, if_neg q1, if_pos q2]; rfl))
            generalize Lib.indexByte blanksB.data.toList k.toUInt8 = X at *
            generalize Lib.indexByte symsB.data.toList k.toUInt8 = Y at *
            have g1 : decide (0 ≤ X) = false := by simpa using q1
            have g2 : decide (0 ≤ Y) = true := by simpa using q2
            clear CV q1 q2
            go_wp2_with fail
            refine (IXk _).out.mono ?_
            rintro e wx ⟨rfl, rfl⟩
            go_wp2_with fail
            refine (IYk _).out.mono ?_
            rintro e wy ⟨rfl, rfl⟩
            go_wp2_with fail
            exact ⟨⟨k + 1, by omega, by go_num, Lib.hid (by rw [← RP.out]; exact row_put8 ho.out _), Lib.hid ((Below.heap_setCell _ _ _ _ (by show g ≠ g + 1; omega)).trans hr.out), Lib.hid (hb.out.setCell (by show w.heap.size ≤ g + 1; omega) _)⟩, by simp [intOf]; omega⟩
          · have RP := Lib.hid (clsRow_keep hlt (by rw [CV.out, if_neg q1, if_neg q2]))
            generalize Lib.indexByte blanksB.data.toList k.toUInt8 = X at *
            generalize Lib.indexByte symsB.data.toList k.toUInt8 = Y at *
            have g1 : decide (0 ≤ X) = false := by simpa using q1
            have g2 : decide (0 ≤ Y) = false := by simpa using q2
            clear CV q1 q2
            go_wp2_with fail
            refine (IXk _).out.mono ?_
            rintro e wx ⟨rfl, rfl⟩
            go_wp2_with fail
            refine (IYk _).out.mono ?_
            rintro e wy ⟨rfl, rfl⟩
            go_wp2_with fail
            exact ⟨⟨k + 1, by omega, by go_num, Lib.hid (by rw [← RP.out]; exact ho.out), Lib.hid (hr.out), Lib.hid (hb.out)⟩, by simp [intOf]; omega⟩
      · have CV : Hid (cls0 k = 3) := Lib.hid (by unfold cls0; rw [if_pos (by omega)])
        have e97 : decide ((97 : Int) ≤ (k : Int)) = false := by simp; omega
        have f97 : decide (97 ≤ k) = false := by simp; omega
        have e65 : decide ((65 : Int) ≤ (k : Int)) = true := by simp; omega
        have f65 : decide (65 ≤ k) = true := by simp; omega
        have e90 : decide ((k : Int) ≤ 90) = true := by simp; omega
        have f90 : decide (k ≤ 90) = true := by simp; omega
        have RP := Lib.hid (clsRow_put hlt (n := 3) (by rw [CV.out]; rfl))
        clear IXk IYk
        go_wp2_with fail
        exact ⟨⟨k + 1, by omega, by go_num, Lib.hid (by rw [← RP.out]; exact row_put8 ho.out _), Lib.hid ((Below.heap_setCell _ _ _ _ (by show g ≠ g + 1; omega)).trans hr.out), Lib.hid (hb.out.setCell (by show w.heap.size ≤ g + 1; omega) _)⟩, by simp [intOf]; omega⟩
      · have CV : Hid (cls0 k = if 0 ≤ Lib.indexByte blanksB.data.toList k.toUInt8 then 1 else if 0 ≤ Lib.indexByte symsB.data.toList k.toUInt8 then 6 else 0) := Lib.hid (by unfold cls0; rw [if_neg (by omega), if_neg (by omega)])
        have e97 : decide ((97 : Int) ≤ (k : Int)) = false := by simp; omega
        have f97 : decide (97 ≤ k) = false := by simp; omega
        have e65 : decide ((65 : Int) ≤ (k : Int)) = true := by simp; omega
        have f65 : decide (65 ≤ k) = true := by simp; omega
        have e90 : decide ((k : Int) ≤ 90) = false := by simp; omega
        have f90 : decide (k ≤ 90) = false := by simp; omega
        have e48 : decide ((48 : Int) ≤ (k : Int)) = true := by simp; omega
        have f48 : decide (48 ≤ k) = true := by simp; omega
        have e57 : decide ((k : Int) ≤ 57) = false := by simp; omega
        have f57 : decide (k ≤ 57) = false := by simp; omega
        by_cases q1 : 0 ≤ Lib.indexByte blanksB.data.toList k.toUInt8
        · have RP := Lib.hid (clsRow_put hlt (n := 1) (by rw [CV.out, if_pos q1]; rfl))
          generalize Lib.indexByte blanksB.data.toList k.toUInt8 = X at *
          clear IYk CV
          go_wp2_with fail
          refine (IXk _).out.mono ?_
          rintro e wx ⟨rfl, rfl⟩
          go_wp2_with fail
          exact ⟨⟨k + 1, by omega, by go_num, Lib.hid (by rw [← RP.out]; exact row_put8 ho.out _), Lib.hid ((Below.heap_setCell _ _ _ _ (by show g ≠ g + 1; omega)).trans hr.out), Lib.hid (hb.out.setCell (by show w.heap.size ≤ g + 1; omega) _)⟩, by simp [intOf]; omega⟩
        · by_cases q2 : 0 ≤ Lib.indexByte symsB.data.toList k.toUInt8
          · have RP := Lib.hid (clsRow_put hlt (n := 6) (by rw [CV.out, if_neg q1, if_pos q2]; rfl))
            generalize Lib.indexByte blanksB.data.toList k.toUInt8 = X at *
            generalize Lib.indexByte symsB.data.toList k.toUInt8 = Y at *
            have g1 : decide (0 ≤ X) = false := by simpa using q1
            have g2 : decide (0 ≤ Y) = true := by simpa using q2
            clear CV q1 q2
            go_wp2_with fail
            refine (IXk _).out.mono ?_
            rintro e wx ⟨rfl, rfl⟩
            go_wp2_with fail
            refine (IYk _).out.mono ?_
            rintro e wy ⟨rfl, rfl⟩
            go_wp2_with fail
            exact ⟨⟨k + 1, by omega, by go_num, Lib.hid (by rw [← RP.out]; exact row_put8 ho.out _), Lib.hid ((Below.heap_setCell _ _ _ _ (by show g ≠ g + 1; omega)).trans hr.out), Lib.hid (hb.out.setCell (by show w.heap.size ≤ g + 1; omega) _)⟩, by simp [intOf]; omega⟩
          · have RP := Lib.hid (clsRow_keep hlt (by rw [CV.out, if_neg q1, if_neg q2]))
            generalize Lib.indexByte blanksB.data.toList k.toUInt8 = X at *
            generalize Lib.indexByte symsB.data.toList k.toUInt8 = Y at *
            have g1 : decide (0 ≤ X) = false := by simpa using q1
            have g2 : decide (0 ≤ Y) = false := by simpa using q2
            clear CV q1 q2
            go_wp2_with fail
            refine (IXk _).out.mono ?_
            rintro e wx ⟨rfl, rfl⟩
            go_wp2_with fail
            refine (IYk _).out.mono ?_
            rintro e wy ⟨rfl, rfl⟩
            go_wp2_with fail
            exact ⟨⟨k + 1, by omega, by go_num, Lib.hid (by rw [← RP.out]; exact ho.out), Lib.hid (hr.out), Lib.hid (hb.out)⟩, by simp [intOf]; omega⟩
      · have CV : Hid (cls0 k = 3) := Lib.hid (by unfold cls0; rw [if_pos (by omega)])
        have e97 : decide ((97 : Int) ≤ (k : Int)) = true := by simp; omega
        have f97 : decide (97 ≤ k) = true := by simp; omega
        have e122 : decide ((k : Int) ≤ 122) = true := by simp; omega
        have f122 : decide (k ≤ 122) = true := by simp; omega
        have RP := Lib.hid (clsRow_put hlt (n := 3) (by rw [CV.out]; rfl))
        clear IXk IYk
        go_wp2_with fail
        exact ⟨⟨k + 1, by omega, by go_num, Lib.hid (by rw [← RP.out]; exact row_put8 ho.out _), Lib.hid ((Below.heap_setCell _ _ _ _ (by show g ≠ g + 1; omega)).trans hr.out), Lib.hid (hb.out.setCell (by show w.heap.size ≤ g + 1; omega) _)⟩, by simp [intOf]; omega⟩
      · have CV : Hid (cls0 k = if 0 ≤ Lib.indexByte blanksB.data.toList k.toUInt8 then 1 else if 0 ≤ Lib.indexByte symsB.data.toList k.toUInt8 then 6 else 0) := Lib.hid (by unfold cls0; rw [if_neg (by omega), if_neg (by omega)])
        have e97 : decide ((97 : Int) ≤ (k : Int)) = true := by simp; omega
        have f97 : decide (97 ≤ k) = true := by simp; omega
        have e122 : decide ((k : Int) ≤ 122) = false := by simp; omega
        have f122 : decide (k ≤ 122) = false := by simp; omega
        have e65 : decide ((65 : Int) ≤ (k : Int)) = true := by simp; omega
        have f65 : decide (65 ≤ k) = true := by simp; omega
        have e90 : decide ((k : Int) ≤ 90) = false := by simp; omega
        have f90 : decide (k ≤ 90) = false := by simp; omega
        have e48 : decide ((48 : Int) ≤ (k : Int)) = true := by simp; omega
        have f48 : decide (48 ≤ k) = true := by simp; omega
        have e57 : decide ((k : Int) ≤ 57) = false := by simp; omega
        have f57 : decide (k ≤ 57) = false := by simp; omega
        by_cases q1 : 0 ≤ Lib.indexByte blanksB.data.toList k.toUInt8
        · have RP := Lib.hid (clsRow_put hlt (n := 1) (by rw [CV.out, if_pos q1]; rfl))
          generalize Lib.indexByte blanksB.data.toList k.toUInt8 = X at *
          clear IYk CV
          go_wp2_with fail
          refine (IXk _).out.mono ?_
          rintro e wx ⟨rfl, rfl⟩
          go_wp2_with fail
          exact ⟨⟨k + 1, by omega, by go_num, Lib.hid (by rw [← RP.out]; exact row_put8 ho.out _), Lib.hid ((Below.heap_setCell _ _ _ _ (by show g ≠ g + 1; omega)).trans hr.out), Lib.hid (hb.out.setCell (by show w.heap.size ≤ g + 1; omega) _)⟩, by simp [intOf]; omega⟩
        · by_cases q2 : 0 ≤ Lib.indexByte symsB.data.toList k.toUInt8
          · have RP := Lib.hid (clsRow_put hlt (n := 6) (by rw [CV.out, if_neg q1, if_pos q2]; rfl))
            generalize Lib.indexByte blanksB.data.toList k.toUInt8 = X at *
            generalize Lib.indexByte symsB.data.toList k.toUInt8 = Y at *
            have g1 : decide (0 ≤ X) = false := by simpa using q1
            have g2 : decide (0 ≤ Y) = true := by simpa using q2
            clear CV q1 q2
            go_wp2_with fail
            refine (IXk _).out.mono ?_
            rintro e wx ⟨rfl, rfl⟩
            go_wp2_with fail
            refine (IYk _).out.mono ?_
            rintro e wy ⟨rfl, rfl⟩
            go_wp2_with fail
            exact ⟨⟨k + 1, by omega, by go_num, Lib.hid (by rw [← RP.out]; exact row_put8 ho.out _), Lib.hid ((Below.heap_setCell _ _ _ _ (by show g ≠ g + 1; omega)).trans hr.out), Lib.hid (hb.out.setCell (by show w.heap.size ≤ g + 1; omega) _)⟩, by simp [intOf]; omega⟩
          · have RP := Lib.hid (clsRow_keep hlt (by rw [CV.out, if_neg q1, if_neg q2]))
            generalize Lib.indexByte blanksB.data.toList k.toUInt8 = X at *
            generalize Lib.indexByte symsB.data.toList k.toUInt8 = Y at *
            have g1 : decide (0 ≤ X) = false := by simpa using q1
            have g2 : decide (0 ≤ Y) = false := by simpa using q2
            clear CV q1 q2
            go_wp2_with fail
            refine (IXk _).out.mono ?_
            rintro e wx ⟨rfl, rfl⟩
            go_wp2_with fail
            refine (IYk _).out.mono ?_
            rintro e wy ⟨rfl, rfl⟩
            go_wp2_with fail
            exact ⟨⟨k + 1, by omega, by go_num, Lib.hid (by rw [← RP.out]; exact ho.out), Lib.hid (hr.out), Lib.hid (hb.out)⟩, by simp [intOf]; omega⟩
    · have hk16 : k = 256 := by omega
      subst hk16
      have ho' := ho.out
      have f1 := free_blk ho.out 35
      have f2 := free_blk (row_put8 ho.out (k := 35) (.int .u8 2)) 95
      have f3 := free_blk (row_put8 (row_put8 ho.out (k := 35) (.int .u8 2)) (k := 95) (.int .u8 5)) 34
      have TB := row_put8 (row_put8 (row_put8 ho.out (k := 35) (.int .u8 2)) (k := 95) (.int .u8 5)) (k := 34) (.int .u8 7)
      rw [clsTab_eq] at TB
      have TBH := Lib.hid TB
      obtain ⟨c1, h1⟩ : ∃ v, wr.cell? ⟨g + 1, 35, none⟩ = some v := ⟨_, (cell_of_row wr (g + 1) 35 _ _ _ ho').trans (Array.getElem?_eq_getElem (by rw [clsRow_size]; omega))⟩
      obtain ⟨c2, h2⟩ : ∃ v, wr.cell? ⟨g + 1, 95, none⟩ = some v := ⟨_, (cell_of_row wr (g + 1) 95 _ _ _ ho').trans (Array.getElem?_eq_getElem (by rw [clsRow_size]; omega))⟩
      obtain ⟨c3, h3⟩ : ∃ v, wr.cell? ⟨g + 1, 34, none⟩ = some v := ⟨_, (cell_of_row wr (g + 1) 34 _ _ _ ho').trans (Array.getElem?_eq_getElem (by rw [clsRow_size]; omega))⟩
      have fz1 := free_blk ho.out 95
      have fz2 := free_blk ho.out 34
      have d1 : decide ((256 : Int) < 256) = false := rfl
      clear ho' TB IX IY
      go_upto_region 17 with fail
      generalize hW2 : ((wr.setCell ⟨g + 1, 35, none⟩ (.int .u8 2)).setCell ⟨g + 1, 95, none⟩ (.int .u8 5)).setCell ⟨g + 1, 34, none⟩ (.int .u8 7) = W2 at *
      have HR2 : W2.heap[g]? = some (.cells (clsRow 0) 156 (0, 0)) := by
        rw [← hW2]
        exact (Below.heap_setCell _ _ _ _ (by show g ≠ g + 1; omega)).trans ((Below.heap_setCell _ _ _ _ (by show g ≠ g + 1; omega)).trans ((Below.heap_setCell _ _ _ _ (by show g ≠ g + 1; omega)).trans hr.out))
      have BW2 : Below w.heap.size w W2 := by
        rw [← hW2]
        exact ((hb.out.setCell (by show w.heap.size ≤ g + 1; omega) _).setCell (by show w.heap.size ≤ g + 1; omega) _).setCell (by show w.heap.size ≤ g + 1; omega) _
      clear hW2 h1 h2 h3 f1 f2 f3
      refine wp_region_lit ?_
      refine wpList_load_mid rfl 156 (.tmp 1) rfl (g + 1) 0 rfl clsTab.toList _ (range_of_row TBH.out) Tryz.underlying156 rfl (by rw [Array.length_toList, show clsTab.size = 256 by simp [clsTab]]; kernel_rfl) ?_
      refine wpList_store_mid rfl 156 (.tmp 0) (.tmp 49) rfl g 0 clsTab rfl rfl (there_of_row HR2 (by rw [clsRow_size]; simp [clsTab])) (by rw [show clsTab.size = 256 by simp [clsTab]]; kernel_rfl) (Array.all_eq_true_iff_forall_mem.2 (fun v hv => by
        simp only [clsTab, Array.mem_ofFn] at hv
        obtain ⟨i, rfl⟩ := hv
        rfl)) ?_
      have RG := range_setCells (cs := clsTab) HR2 (by rw [clsRow_size]; simp [clsTab])
      have BB := below_setCells (w' := W2) g clsTab.toList 0 W2 BW2 (by omega)
      generalize W2.setCells g 0 clsTab.toList = W3 at *
      have LV := run_loadVar_mid W3 g 0 156 clsTab.toList _ RG Tryz.underlying156 rfl (by rw [Array.length_toList, show clsTab.size = 256 by simp [clsTab]]; kernel_rfl)
      simp only [Array.toArray_toList] at LV ⊢
      clear RG TBH BW2 HR2 ho hr hb
      go_simp
      go_wp2_with fail
      refine bodyPost_ret (v := .agg clsTab) (results_cell1 (i := 0) (t := 156) rfl rfl LV) rfl ⟨rfl, BB⟩
theorem tab_at {i : Nat} (h : i < 256) : clsTab[i]? = some (.int .u8 (clsF i : Int)) := by
  unfold clsTab
  rw [Array.getElem?_ofFn, dif_pos h]
end Go.Proofs.YtniklmikdkjgiaaGreatDoor
namespace Go.Proofs.YtniklmikdkjgiaaGreatDoor
open Go.RowKit
abbrev Tx := List UInt8
def mkB (t : List UInt8) : ByteArray := ⟨t.toArray⟩
theorem mkB_list (t : List UInt8) : (mkB t).data.toList = t := by simp [mkB]
theorem mkB_of (s : ByteArray) : mkB s.data.toList = s := by apply ByteArray.ext; simp [mkB]
theorem mkB_inj {a b : List UInt8} (e : mkB a = mkB b) : a = b := by rw [← mkB_list a, ← mkB_list b, e]
theorem mkB_len (t : Tx) : (mkB t).size = t.length := by simp [mkB, ByteArray.size]
theorem mkB_tl (t : Tx) : (mkB t).toList = t := by rw [ByteArray.toList_eq, mkB_list]
theorem clsTab_size : clsTab.size = 256 := by simp [clsTab]
theorem zeroTab_size : Tryz.zeroCells156.size = 256 := by kernel_rfl
theorem clsTab_one : clsTab.all (·.oneCell') = true := Array.all_eq_true_iff_forall_mem.2 (fun v hv => by
  simp only [clsTab, Array.mem_ofFn] at hv
  obtain ⟨i, rfl⟩ := hv
  rfl)
theorem store_tab (w : World) : (storeCells ⟨w.heap.size, 0, none⟩ clsTab.toList).run Tryz.prog (w.alloc (.cells Tryz.zeroCells156 156)) = .ok () (w.alloc (.cells clsTab 156)) :=
  run_storeCells_new w 156 _ _ (by rw [clsTab_size]; kernel_rfl) (by rw [clsTab_size, zeroTab_size]) clsTab_one
theorem tl_get (s : Tx) {k : Nat} (h : k < s.length) : (mkB s)[k]'(by rw [mkB_len]; exact h) = s[k] := by
  show (mkB s).data[k]'_ = _
  simp [mkB]
def okC (i : Nat) (c : UInt8) : Bool := if i = 0 then At.letterB c else At.tailB c
theorem cls_all : ∀ n : Fin 256, (decide (clsF n.val = 3) = At.letterB n.val.toUInt8) ∧ ((decide (clsF n.val = 3) || decide (clsF n.val = 4) || decide (clsF n.val = 5)) = At.tailB n.val.toUInt8) := by decide +kernel
theorem cls_c (c : UInt8) : (decide (clsF c.toNat = 3) = At.letterB c) ∧ ((decide (clsF c.toNat = 3) || decide (clsF c.toNat = 4) || decide (clsF c.toNat = 5)) = At.tailB c) := by
  have := cls_all ⟨c.toNat, c.toNat_lt⟩
  simpa using this
theorem name_iff (s : Tx) : At.nameB s = (s.length != 0 && decide (s.length ≤ 24) && decide (∀ i (h : i < s.length), okC i s[i] = true)) := by
  cases s with
  | nil => rfl
  | cons c r =>
    unfold At.nameB
    rw [Bool.eq_iff_iff]
    simp only [Bool.and_eq_true, List.all_eq_true, decide_eq_true_eq, List.length_cons]
    constructor
    · rintro ⟨⟨h1, h2⟩, h3⟩
      refine ⟨⟨by simp, h3⟩, fun i hi => ?_⟩
      cases i with
      | zero => simpa [okC] using h1
      | succ i =>
        unfold okC
        rw [if_neg (by omega)]
        exact h2 _ (by simp)
    · rintro ⟨⟨_, h3⟩, h⟩
      refine ⟨⟨?_, fun x hx => ?_⟩, h3⟩
      · have := h 0 (by simp); simpa [okC] using this
      · obtain ⟨i, hi, rfl⟩ := List.mem_iff_getElem.1 hx
        have := h (i + 1) (by simpa using hi)
        unfold okC at this
        rw [if_neg (by omega)] at this
        simpa using this
theorem name_true {s : Tx} (h : ∀ i (h : i < s.length), okC i s[i] = true) : At.nameB s = (s.length != 0 && decide (s.length ≤ 24)) := by
  rw [name_iff, decide_eq_true h, Bool.and_true]
theorem name_false {s : Tx} {i : Nat} (h : i < s.length) (hc : okC i s[i] = false) : At.nameB s = false := by
  have hn : ¬ (∀ i (h : i < s.length), okC i s[i] = true) := fun k => by have := k i h; rw [hc] at this; cases this
  rw [name_iff, decide_eq_false hn, Bool.and_false]
theorem name_any (s : Tx) (w : World) (hs : s.length ≤ 9223372036854775807) :
    Calls Tryz.prog 82 #[.string (mkB s)] w fun e w' => e = .returned (.bool (At.nameB s)) ∧ Below w.heap.size w w' := by
  go_enter Tryz.func82, Tryz.ntmps82
  go_wp2_with fail
  refine (classes_any _).mono ?_
  rintro e w1 ⟨rfl, b1⟩
  have CS := clsTab_size
  have ST := store_tab w1
  have TB := Lib.hid (heap_alloc_new w1 (.cells clsTab 156))
  have ms := mkB_len s
  have tk := mkB_tl s
  have B1 := Lib.hid (b1.alloc b1.size (.cells clsTab 156))
  clear b1
  obtain ⟨n, hn⟩ : ∃ n, s.length = n := ⟨_, rfl⟩
  have HN := Lib.hid hn
  rw [hn] at hs ms
  clear hn
  go_wp2_with fail
  generalize w1.heap.size = g at *
  generalize w1.alloc (.cells clsTab 156) = w2 at *
  clear ST CS
  go_loopw [9] (fun s9 wr => ∃ k : Nat, k ≤ n ∧ s9 = .int .i64 (k : Int) ∧ Hid (∀ i (h : i < s.length), i < k → okC i s[i] = true) ∧ wr = w2) (fun i _ => n - (intOf i).toNat)
  case atStart => exact ⟨0, Nat.zero_le _, rfl, Lib.hid (fun i _ h => absurd h (Nat.not_lt_zero _)), rfl⟩
  case round =>
    obtain ⟨k, hk, rfl, AL, rfl⟩ := hrel
    by_cases hlt : k < n
    · have hkl : k < s.length := by have := HN.out; omega
      have d1 : (k : Int) < (n : Int) := by omega
      have d2 : (0 : Int) ≤ (k : Int) := by omega
      have tg := tl_get s hkl
      have ALn : Hid (okC k s[k] = true → ∀ i (h : i < s.length), i < k + 1 → okC i s[i] = true) := Lib.hid (fun hc i hi hik => by
        rcases Nat.lt_succ_iff_lt_or_eq.1 hik with h1 | h1
        · exact AL.out i hi h1
        · subst h1; exact hc)
      have NF : Hid (okC k s[k] = false → At.nameB s = false) := Lib.hid (name_false hkl)
      have CC := Lib.hid (cls_c s[k])
      have lt := s[k].toNat_lt
      have c0 := (cell_of_row wr g s[k].toNat _ _ _ TB.out).trans (tab_at lt)
      generalize s[k] = c at *
      obtain ⟨q, hq⟩ : ∃ q, clsF c.toNat = q := ⟨_, rfl⟩
      rw [hq] at CC c0
      have KN : Hid (okC k c = if k = 0 then At.letterB c else At.tailB c) := Lib.hid rfl
      generalize okC k c = O at *
      rw [← CC.out.1, ← CC.out.2] at KN
      clear CC hq
      have lt2 : c.toNat < 256 := lt
      have lt3 : (c.toNat : Int) < 256 := by omega
      have lt4 : (0 : Int) ≤ (c.toNat : Int) := by omega
      by_cases q3 : q = 3
      · subst q3
        have A2 := Lib.hid (ALn.out (by rw [KN.out]; simp))
        clear ALn NF KN
        go_wp2_with fail
        exact ⟨⟨k + 1, by omega, by go_num, A2, trivial⟩, by simp [intOf]; omega⟩
      · have e3 : ((q : Int) != 3) = true := by simp; omega
        by_cases k0 : k = 0
        · subst k0
          have N2 := Lib.hid (NF.out (by rw [KN.out]; simp [q3]))
          clear ALn NF KN
          go_wp2_with fail
          go_ret
          exact ⟨by rw [N2.out]; rfl, B1.out⟩
        · have ek : ((k : Int) == 0) = false := by simp; omega
          by_cases q4 : q = 4
          · subst q4
            have A2 := Lib.hid (ALn.out (by rw [KN.out]; simp [k0]))
            clear ALn NF KN
            go_wp2_with fail
            exact ⟨⟨k + 1, by omega, by go_num, A2, trivial⟩, by simp [intOf]; omega⟩
          · have e4 : ((q : Int) != 4) = true := by simp; omega
            by_cases q5 : q = 5
            · subst q5
              have A2 := Lib.hid (ALn.out (by rw [KN.out]; simp [k0]))
              clear ALn NF KN
              go_wp2_with fail
              exact ⟨⟨k + 1, by omega, by go_num, A2, trivial⟩, by simp [intOf]; omega⟩
            · have e5 : ((q : Int) != 5) = true := by simp; omega
              have N2 := Lib.hid (NF.out (by rw [KN.out]; simp [q3, k0, q4, q5]))
              clear ALn NF KN
              go_wp2_with fail
              go_ret
              exact ⟨by rw [N2.out]; rfl, B1.out⟩
    · have d1 : ¬ (k : Int) < (n : Int) := by omega
      have NT := Lib.hid (name_true (s := s) (fun i hi => AL.out i hi (by have := HN.out; omega)))
      rw [HN.out] at NT
      have HE : Hid (n = 0 ↔ s = []) := Lib.hid (by rw [← HN.out]; simp)
      clear TB
      by_cases n0 : s = []
      · have z : n = 0 := HE.out.2 n0
        subst z
        have e0 : (s == []) = true := by rw [n0]; rfl
        clear n0
        go_wp2_with fail
        go_ret
        exact ⟨by rw [NT.out]; rfl, B1.out⟩
      · have z : ¬ n = 0 := fun e => n0 (HE.out.1 e)
        have e0 : (s == []) = false := by simpa using n0
        have N2 : Hid (At.nameB s = decide (n ≤ 24)) := Lib.hid (by rw [NT.out]; simp [z])
        clear n0 NT HE
        by_cases n24 : n ≤ 24
        · have d3 : (n : Int) ≤ 24 := by omega
          go_wp2_with fail
          go_ret
          exact ⟨by rw [N2.out, decide_eq_true n24]; rfl, B1.out⟩
        · have d3 : decide ((n : Int) ≤ 24) = false := by simp; omega
          have d4 : decide (n ≤ 24) = false := by simp; omega
          go_wp2_with fail
          go_ret
          exact ⟨by rw [N2.out, d4]; rfl, B1.out⟩
end Go.Proofs.YtniklmikdkjgiaaGreatDoor
namespace Go.Proofs.YtniklmikdkjgiaaGreatDoor
open Go.RowKit
theorem flat_get {α : Type} (f : α → List Value) (m : Nat) (hf : ∀ a, (f a).length = m) : ∀ {l : List α} {k : Nat} (h : k < l.length) {i : Nat} {u : Value}, (f l[k])[i]? = some u → (l.flatMap f)[k * m + i]? = some u
  | [], _, h, _, _, _ => by simp at h
  | a :: l, 0, _, i, u, hu => by
    rw [List.flatMap_cons, Nat.zero_mul, Nat.zero_add]
    have hi := (List.getElem?_eq_some_iff.1 hu).1
    have hi : i < (f a).length := hi
    rw [List.getElem?_append_left hi]; exact hu
  | a :: l, k + 1, h, i, u, hu => by
    have ih := flat_get f m hf (l := l) (k := k) (by simpa using h) (i := i) (u := u) (by simpa using hu)
    rw [List.flatMap_cons, List.getElem?_append_right (by rw [hf, Nat.succ_mul]; omega), hf]
    rw [show (k + 1) * m + i - m = k * m + i by rw [Nat.succ_mul]; omega]
    exact ih
theorem flat_len {α : Type} (f : α → List Value) (m : Nat) (hf : ∀ a, (f a).length = m) (l : List α) : (l.flatMap f).length = l.length * m := by
  induction l with
  | nil => simp
  | cons a l ih => rw [List.flatMap_cons, List.length_append, ih, hf, List.length_cons, Nat.succ_mul]; omega
def strsC (l : List Tx) : List Value := l.map fun s => .string (mkB s)
theorem strs_at {w : World} {A : Option Addr} {l : List Tx} (h : Rd w A (strsC l)) {k : Nat} (hk : k < l.length) :
    ∃ b off, A = some ⟨b, off, none⟩ ∧ b < w.heap.size ∧ w.cell? ⟨b, off + k, none⟩ = some (.string (mkB l[k])) := h.map_at (f := fun s => Value.string (mkB s)) hk
def tagC (t : Tx × Tx) : List Value := [.string (mkB t.1), .string (mkB t.2)]
def tagsC (l : List (Tx × Tx)) : List Value := l.flatMap tagC
theorem tagsC_len (l : List (Tx × Tx)) : (tagsC l).length = l.length * 2 := flat_len tagC 2 (fun _ => rfl) l
theorem tags_at {w : World} {A : Option Addr} {l : List (Tx × Tx)} (h : Rd w A (tagsC l)) {k : Nat} (hk : k < l.length) :
    ∃ b off, A = some ⟨b, off, none⟩ ∧ b < w.heap.size ∧ w.cell? ⟨b, off + k * 2, none⟩ = some (.string (mkB l[k].1)) ∧ w.cell? ⟨b, off + k * 2 + 1, none⟩ = some (.string (mkB l[k].2)) := by
  obtain ⟨b, off, e, hb, hc⟩ := h (by rw [tagsC_len]; omega)
  have g : ∀ f u, (tagC l[k])[f]? = some u → w.cell? ⟨b, off + (k * 2 + f), none⟩ = some u := fun f u hu => hc (k * 2 + f) u (flat_get tagC 2 (fun _ => rfl) hk hu)
  refine ⟨b, off, e, hb, g 0 _ rfl, ?_⟩
  have := g 1 _ rfl; rwa [← Nat.add_assoc] at this
theorem belowNN {B : Nat} {w w' : World} (h : Below B w w') (n : Nat) : Below B w (w'.drewN n) := ⟨h.os, h.tape, h.output, h.size, h.block⟩
theorem list_ne_at {α : Type} {l m : List α} {k : Nat} (h : k < l.length) (h' : k < m.length) (e : l[k] ≠ m[k]) : l ≠ m := by rintro rfl; exact e rfl
theorem eqs_any (A B : Option Addr) (c d : Nat) (l m : List Tx) (n1 n2 : Nat) (w : World) (hn1 : n1 = l.length) (hn2 : n2 = m.length) (hl : n1 ≤ 1000000) (hm : n2 ≤ 1000000) (h : Rd w A (strsC l)) (h2 : Rd w B (strsC m)) :
    Calls Tryz.prog 97 #[.slice A n1 c, .slice B n2 d] w fun e w' => e = .returned (.bool (decide (l = m))) ∧ Below w.heap.size w w' := by
  have H := Lib.hid h; clear h
  have H2 := Lib.hid h2; clear h2
  have HN := Lib.hid hn1
  have HM := Lib.hid hn2
  clear hn1 hn2
  obtain ⟨R, hR⟩ : ∃ R, decide (l = m) = R := ⟨_, rfl⟩
  have HR := Lib.hid hR
  rw [hR]
  clear hR
  have HB : Hid (Below w.heap.size w w) := Lib.hid (Below.refl _ _)
  by_cases hlen : n1 = n2
  · have hq : ((n1 : Int) != (n2 : Int)) = false := by rw [hlen]; simp
    have HL := Lib.hid hlen
    clear hlen
    go_enter Tryz.func97, Tryz.ntmps97
    go_wp2_with fail
    go_loopw [13] (fun i wr => ∃ k : Nat, k ≤ n1 ∧ i = .int .i64 (k : Int) ∧ Hid (∀ j (_ : j < k) (h : j < l.length) (h' : j < m.length), l[j] = m[j]) ∧ Hid (Below w.heap.size w wr)) (fun i _ => n1 - (intOf i).toNat)
    case atStart => exact ⟨0, Nat.zero_le _, rfl, Lib.hid (fun j h => absurd h (Nat.not_lt_zero _)), HB⟩
    case round =>
      clear HB
      obtain ⟨k, hk, rfl, AL, BL⟩ := hrel
      by_cases hlt : k < n1
      · have hkl : k < l.length := by rw [← HN.out]; exact hlt
        have hkm : k < m.length := by rw [← HM.out, ← HL.out]; exact hlt
        have d1 : (k : Int) < (n1 : Int) := by omega
        have d3 : (k : Int) < (n2 : Int) := by have := HL.out; omega
        have d2 : (0 : Int) ≤ (k : Int) := by omega
        obtain ⟨b, off, rfl, hb, c0⟩ := strs_at (H.out.below BL.out) hkl
        obtain ⟨b2, off2, rfl, hb2, c1⟩ := strs_at (H2.out.below BL.out) hkm
        have ALn : Hid (l[k] = m[k] → ∀ j (_ : j < k + 1) (h : j < l.length) (h' : j < m.length), l[j] = m[j]) := Lib.hid (fun hc j hj h h' => by
          rcases Nat.lt_succ_iff_lt_or_eq.1 hj with h1 | h1
          · exact AL.out j h1 h h'
          · subst h1; exact hc)
        have NE : Hid (l[k] ≠ m[k] → R = false) := Lib.hid (fun hc => by rw [← HR.out]; exact decide_eq_false (list_ne_at hkl hkm hc))
        have t1 := mkB_tl l[k]
        have t2 := mkB_tl m[k]
        generalize l[k] = x at *
        generalize m[k] = y at *
        by_cases he : x = y
        · have e1 : (x == y) = true := by rw [he]; simp
          have e2 : (x != y) = false := by rw [he]; simp
          have A2 := Lib.hid (ALn.out he)
          clear ALn NE he
          go_wp2_with fail
          go_quiet (fail)
          go_wp2_with fail
          exact ⟨⟨k + 1, by omega, by go_num, A2, Lib.hid (belowNN BL.out _)⟩, by simp [intOf]; omega⟩
        · have e1 : (x == y) = false := by simpa using he
          have e2 : (x != y) = true := by simpa using he
          have A2 := Lib.hid (NE.out he)
          clear ALn NE he
          go_wp2_with fail
          go_quiet (fail)
          go_wp2_with fail
          go_ret
          exact ⟨by rw [A2.out]; rfl, belowNN BL.out _⟩
      · have d1 : ¬ (k : Int) < (n1 : Int) := by omega
        have RT : Hid (R = true) := Lib.hid (by
          rw [← HR.out]
          exact decide_eq_true (List.ext_getElem (by rw [← HN.out, ← HM.out, HL.out]) (fun j h h' => AL.out j (by have := HN.out; omega) h h')))
        clear AL
        go_wp2_with fail
        go_ret
        exact ⟨by rw [RT.out]; rfl, BL.out⟩
  · have hq : ((n1 : Int) != (n2 : Int)) = true := by simp; omega
    have RF : Hid (R = false) := Lib.hid (by
      rw [← HR.out]
      exact decide_eq_false (fun e => hlen (by rw [HN.out, HM.out, e])))
    clear hlen
    go_enter Tryz.func97, Tryz.ntmps97
    go_wp2_with fail
    go_ret
    exact ⟨by rw [RF.out]; rfl, HB.out⟩
theorem eqt_any (A B : Option Addr) (c d : Nat) (l m : List (Tx × Tx)) (n1 n2 : Nat) (w : World) (hn1 : n1 = l.length) (hn2 : n2 = m.length) (hl : n1 ≤ 1000000) (hm : n2 ≤ 1000000) (h : Rd w A (tagsC l)) (h2 : Rd w B (tagsC m)) :
    Calls Tryz.prog 129 #[.slice A n1 c, .slice B n2 d] w fun e w' => e = .returned (.bool (decide (l = m))) ∧ Below w.heap.size w w' := by
  have H := Lib.hid h; clear h
  have H2 := Lib.hid h2; clear h2
  have HN := Lib.hid hn1
  have HM := Lib.hid hn2
  clear hn1 hn2
  obtain ⟨R, hR⟩ : ∃ R, decide (l = m) = R := ⟨_, rfl⟩
  have HR := Lib.hid hR
  rw [hR]
  clear hR
  have HB : Hid (Below w.heap.size w w) := Lib.hid (Below.refl _ _)
  by_cases hlen : n1 = n2
  · have hq : ((n1 : Int) != (n2 : Int)) = false := by rw [hlen]; simp
    have HL := Lib.hid hlen
    clear hlen
    go_enter Tryz.func129, Tryz.ntmps129
    go_wp2_with fail
    go_loopw [13] (fun i wr => ∃ k : Nat, k ≤ n1 ∧ i = .int .i64 (k : Int) ∧ Hid (∀ j (_ : j < k) (h : j < l.length) (h' : j < m.length), l[j] = m[j]) ∧ Hid (Below w.heap.size w wr)) (fun i _ => n1 - (intOf i).toNat)
    case atStart => exact ⟨0, Nat.zero_le _, rfl, Lib.hid (fun j h => absurd h (Nat.not_lt_zero _)), HB⟩
    case round =>
      clear HB
      obtain ⟨k, hk, rfl, AL, BL⟩ := hrel
      by_cases hlt : k < n1
      · have hkl : k < l.length := by rw [← HN.out]; exact hlt
        have hkm : k < m.length := by rw [← HM.out, ← HL.out]; exact hlt
        have d1 : (k : Int) < (n1 : Int) := by omega
        have d3 : (k : Int) < (n2 : Int) := by have := HL.out; omega
        have d2 : (0 : Int) ≤ (k : Int) := by omega
        obtain ⟨b, off, rfl, hb, c0, c1⟩ := tags_at (H.out.below BL.out) hkl
        obtain ⟨b2, off2, rfl, hb2, c2, c3⟩ := tags_at (H2.out.below BL.out) hkm
        have ALn : Hid (l[k] = m[k] → ∀ j (_ : j < k + 1) (h : j < l.length) (h' : j < m.length), l[j] = m[j]) := Lib.hid (fun hc j hj h h' => by
          rcases Nat.lt_succ_iff_lt_or_eq.1 hj with h1 | h1
          · exact AL.out j h1 h h'
          · subst h1; exact hc)
        have NE : Hid (l[k] ≠ m[k] → R = false) := Lib.hid (fun hc => by rw [← HR.out]; exact decide_eq_false (list_ne_at hkl hkm hc))
        have t1 := mkB_tl l[k].1
        have t2 := mkB_tl m[k].1
        have t3 := mkB_tl l[k].2
        have t4 := mkB_tl m[k].2
        have EE : Hid (l[k] = m[k] ↔ l[k].1 = m[k].1 ∧ l[k].2 = m[k].2) := Lib.hid Prod.ext_iff
        generalize l[k] = x at *
        generalize m[k] = y at *
        obtain ⟨x1, x2⟩ := x
        obtain ⟨y1, y2⟩ := y
        dsimp only at t1 t2 t3 t4 c0 c1 c2 c3 EE
        by_cases h1 : x1 = y1
        · have e1 : (x1 == y1) = true := by rw [h1]; simp
          by_cases h2 : x2 = y2
          · have e2 : (x2 == y2) = true := by rw [h2]; simp
            have A2 := Lib.hid (ALn.out (EE.out.2 ⟨h1, h2⟩))
            clear ALn NE EE h1 h2
            go_wp2_with fail
            go_quiet (fail)
            go_wp2_with fail
            exact ⟨⟨k + 1, by omega, by go_num, A2, Lib.hid (belowNN BL.out _)⟩, by simp [intOf]; omega⟩
          · have e2 : (x2 == y2) = false := by simpa using h2
            have A2 := Lib.hid (NE.out (fun e => h2 (EE.out.1 e).2))
            clear ALn NE EE h1 h2
            go_wp2_with fail
            go_quiet (fail)
            go_wp2_with fail
            go_ret
            exact ⟨by rw [A2.out]; rfl, belowNN BL.out _⟩
        · have e1 : (x1 == y1) = false := by simpa using h1
          have A2 := Lib.hid (NE.out (fun e => h1 (EE.out.1 e).1))
          clear ALn NE EE h1
          go_wp2_with fail
          go_quiet (fail)
          go_wp2_with fail
          go_ret
          exact ⟨by rw [A2.out]; rfl, belowNN BL.out _⟩
      · have d1 : ¬ (k : Int) < (n1 : Int) := by omega
        have RT : Hid (R = true) := Lib.hid (by
          rw [← HR.out]
          exact decide_eq_true (List.ext_getElem (by rw [← HN.out, ← HM.out, HL.out]) (fun j h h' => AL.out j (by have := HN.out; omega) h h')))
        clear AL
        go_wp2_with fail
        go_ret
        exact ⟨by rw [RT.out]; rfl, BL.out⟩
  · have hq : ((n1 : Int) != (n2 : Int)) = true := by simp; omega
    have RF : Hid (R = false) := Lib.hid (by
      rw [← HR.out]
      exact decide_eq_false (fun e => hlen (by rw [HN.out, HM.out, e])))
    clear hlen
    go_enter Tryz.func129, Tryz.ntmps129
    go_wp2_with fail
    go_ret
    exact ⟨by rw [RF.out]; rfl, HB.out⟩
end Go.Proofs.YtniklmikdkjgiaaGreatDoor
namespace Go.Proofs.YtniklmikdkjgiaaGreatDoor
open Go.RowKit
theorem lt_facts (a b : Tx) : (At.lt b a = true ∧ Op.bytesLess a b = false ∧ (a == b) = false) ∨ (At.lt b a = false ∧ Op.bytesLess a b = true ∧ (a == b) = false) ∨ (At.lt b a = false ∧ Op.bytesLess a b = false ∧ (a == b) = true) := by
  by_cases h : a = b
  · subst h
    have := At.lt_irrefl a
    exact .inr (.inr ⟨this, this, by simp⟩)
  · have e : (a == b) = false := by simpa using h
    rcases At.lt_total h with k | k
    · exact .inr (.inl ⟨At.lt_asymm k, k, e⟩)
    · exact .inl ⟨k, At.lt_asymm k, e⟩
theorem tagsFrom_drop (l : List (Tx × Tx)) (last : Tx) {k : Nat} (h : k < l.length) :
    At.tagsFrom last (l.drop k) = (At.nameB l[k].1 && At.lt last l[k].1 && decide (l[k].2 ≠ []) && decide (l[k].2.length ≤ 200) && At.tagsFrom l[k].1 (l.drop (k + 1))) := by
  rw [List.drop_eq_getElem_cons h, At.tagsFrom]
theorem tagv_any (A : Option Addr) (c : Nat) (l : List (Tx × Tx)) (n : Nat) (w : World) (hn : n = l.length) (hl : n ≤ 1000000) (hs : ∀ t ∈ l, t.1.length ≤ 9223372036854775807 ∧ t.2.length ≤ 9223372036854775807) (h : Rd w A (tagsC l)) :
    Calls Tryz.prog 215 #[.slice A n c] w fun e w' => e = .returned (.bool (At.tagsB l)) ∧ Below w.heap.size w w' := by
  have H := Lib.hid h; clear h
  have HS := Lib.hid hs; clear hs
  have HN := Lib.hid hn; clear hn
  obtain ⟨R, hR⟩ : ∃ R, At.tagsB l = R := ⟨_, rfl⟩
  have HR : Hid (R = (At.tagsFrom [] l && decide (n ≤ 60))) := Lib.hid (by rw [← hR, HN.out]; rfl)
  rw [hR]
  clear hR
  have HB : Hid (Below w.heap.size w w) := Lib.hid (Below.refl _ _)
  have te := mkB_tl []
  have em : (ByteArray.mk #[]) = mkB [] := rfl
  go_enter Tryz.func215, Tryz.ntmps215
  go_wp2_with fail
  try rw [em]
  go_loopw [3, 5, 8] (fun s3 s5 s8 wr => ∃ (k : Nat) (last : Tx), k ≤ n ∧ s8 = .int .i64 (k : Int) ∧ s3 = .string (mkB last) ∧ (∃ p, s5 = p) ∧ Hid (R = (At.tagsFrom last (l.drop k) && decide (n ≤ 60))) ∧ Hid (Below w.heap.size w wr)) (fun _ _ i _ => n - (intOf i).toNat)
  case atStart => exact ⟨0, [], Nat.zero_le _, rfl, rfl, ⟨_, rfl⟩, HR, HB⟩
  case round =>
    clear HB HR
    obtain ⟨k, last, hk, rfl, rfl, ⟨p5, rfl⟩, HR, BL⟩ := hrel
    have tl := mkB_tl last
    by_cases hlt : k < n
    · have hkl : k < l.length := by rw [← HN.out]; exact hlt
      have d1 : (k : Int) < (n : Int) := by omega
      have d2 : (0 : Int) ≤ (k : Int) := by omega
      obtain ⟨b, off, rfl, hb, c0, c1⟩ := tags_at (H.out.below BL.out) hkl
      have SZ := HS.out l[k] (List.getElem_mem hkl)
      have HD := Lib.hid (HR.out.trans (by rw [tagsFrom_drop l last hkl]))
      generalize l[k] = x at *
      obtain ⟨x1, x2⟩ := x
      dsimp only at c0 c1 SZ HD
      have t1 := mkB_tl x1
      have t2 := mkB_tl x2
      have m2 := mkB_len x2
      have NM := fun u => Lib.hid (name_any x1 u SZ.1)
      have BX := Lib.hid (BL.out.alloc BL.out.size (.cells #[.string (mkB x1), .string (mkB x2)] 181))
      have XX := Lib.hid (heap_alloc_new wr (.cells #[.string (mkB x1), .string (mkB x2)] 181))
      clear HR
      go_wp2_with fail
      refine (NM _).out.mono ?_
      rintro e w1 ⟨rfl, b1⟩
      have B1 := Lib.hid (BX.out.trans (b1.mono BX.out.size))
      have x1c := (b1.block wr.heap.size (by simp)).trans XX.out
      have z0 := cell_of_row w1 wr.heap.size 0 _ _ _ x1c
      have z1 := cell_of_row w1 wr.heap.size 1 _ _ _ x1c
      have zs : wr.heap.size < w1.heap.size := Nat.lt_of_lt_of_le (by simp) b1.size
      simp at z0 z1
      clear b1 x1c XX BX NM
      cases hN : At.nameB x1
      · have RF : Hid (R = false) := Lib.hid (by rw [HD.out, hN]; rfl)
        clear HD
        go_wp2_with fail
        go_ret
        exact ⟨by rw [RF.out]; rfl, B1.out⟩
      · rcases lt_facts x1 last with ⟨f1, f2, f3⟩ | ⟨f1, f2, f3⟩ | ⟨f1, f2, f3⟩
        · by_cases hv : x2 = []
          · have e1 : (x2 == []) = true := by rw [hv]; rfl
            have RF : Hid (R = false) := Lib.hid (by rw [HD.out, hN, f1, hv]; rfl)
            clear HD hv f1
            go_wp2_with fail
            go_ret
            exact ⟨by rw [RF.out]; rfl, B1.out⟩
          · have e1 : (x2 == []) = false := by simpa using hv
            by_cases h2 : x2.length ≤ 200
            · have HD2 : Hid (R = (At.tagsFrom x1 (l.drop (k + 1)) && decide (n ≤ 60))) := Lib.hid (by rw [HD.out, hN, f1, decide_eq_true hv, decide_eq_true h2]; rfl)
              obtain ⟨m, hm⟩ : ∃ m, x2.length = m := ⟨_, rfl⟩
              rw [hm] at m2 h2
              have g1 : decide ((200 : Int) < (m : Int)) = false := by simp; omega
              have g2 : decide (200 < m) = false := by simp; omega
              clear HD hv f1 hm
              go_wp2_with fail
              exact ⟨⟨k + 1, x1, by omega, by go_num, rfl, ⟨_, rfl⟩, HD2, B1⟩, by simp [intOf]; omega⟩
            · have RF : Hid (R = false) := Lib.hid (by rw [HD.out, hN, f1, decide_eq_false h2]; simp)
              obtain ⟨m, hm⟩ : ∃ m, x2.length = m := ⟨_, rfl⟩
              rw [hm] at m2 h2
              have g1 : decide ((200 : Int) < (m : Int)) = true := by simp; omega
              have g2 : decide (200 < m) = true := by simp; omega
              clear HD hv f1 hm
              go_wp2_with fail
              go_ret
              exact ⟨by rw [RF.out]; rfl, B1.out⟩
        · have RF : Hid (R = false) := Lib.hid (by rw [HD.out, hN, f1]; rfl)
          clear HD f1
          go_wp2_with fail
          go_ret
          exact ⟨by rw [RF.out]; rfl, B1.out⟩
        · have RF : Hid (R = false) := Lib.hid (by rw [HD.out, hN, f1]; rfl)
          clear HD f1
          go_wp2_with fail
          go_ret
          exact ⟨by rw [RF.out]; rfl, B1.out⟩
    · have d1 : ¬ (k : Int) < (n : Int) := by omega
      have RT : Hid (R = decide (n ≤ 60)) := Lib.hid (by
        rw [HR.out, List.drop_eq_nil_of_le (by rw [← HN.out]; omega)]; rfl)
      clear HR
      by_cases n60 : n ≤ 60
      · have d3 : (n : Int) ≤ 60 := by omega
        go_wp2_with fail
        go_ret
        exact ⟨by rw [RT.out, decide_eq_true n60]; rfl, BL.out⟩
      · have d3 : decide ((n : Int) ≤ 60) = false := by simp; omega
        have d4 : decide (n ≤ 60) = false := by simp; omega
        go_wp2_with fail
        go_ret
        exact ⟨by rw [RT.out, d4]; rfl, BL.out⟩
def wordF (k : Int) : Tx := if k = 1 then [110, 111, 100, 101] else if k = 2 then [119, 97, 121] else if k = 3 then [97, 114, 101, 97] else if k = 4 then [114, 111, 117, 116, 101] else if k = 5 then [116, 117, 114, 110] else []
theorem word_out {k : Int} (h : At.kindB k = false) : wordF k = [] := by
  unfold At.kindB at h
  have : ¬ (1 ≤ k ∧ k ≤ 5) := fun ⟨h1, h2⟩ => by rw [decide_eq_true h1, decide_eq_true h2] at h; cases h
  unfold wordF
  rw [if_neg (by omega), if_neg (by omega), if_neg (by omega), if_neg (by omega), if_neg (by omega)]
theorem word_any (k : Int) (w : World) :
    Calls Tryz.prog 199 #[.int .i64 k] w fun e w' => e = .returned (.string (mkB (wordF k))) ∧ Below w.heap.size w w' := by
  by_cases h0 : k < 0
  · have WF : Hid (wordF k = []) := Lib.hid (word_out (by unfold At.kindB; rw [decide_eq_false (show ¬ 1 ≤ k by omega)]; rfl))
    go_enter Tryz.func199, Tryz.ntmps199
    go_wp2_with fail
    go_ret
    exact ⟨by rw [WF.out]; rfl, (Below.refl _ _).alloc (Nat.le_refl _) _⟩
  · by_cases h6 : 6 ≤ k
    · have WF : Hid (wordF k = []) := Lib.hid (word_out (by unfold At.kindB; rw [decide_eq_false (show ¬ k ≤ 5 by omega)]; simp))
      have g1 : decide (k < 0) = false := by simpa using h0
      have g2 : decide (6 ≤ k) = true := by simpa using h6
      clear h0 h6
      go_enter Tryz.func199, Tryz.ntmps199
      go_wp2_with fail
      go_ret
      exact ⟨by rw [WF.out]; rfl, (Below.refl _ _).alloc (Nat.le_refl _) _⟩
    · rcases (show k = 0 ∨ k = 1 ∨ k = 2 ∨ k = 3 ∨ k = 4 ∨ k = 5 by omega) with rfl | rfl | rfl | rfl | rfl | rfl
      all_goals
        clear h0 h6
        go_enter Tryz.func199, Tryz.ntmps199
        go_wp2_with fail
        go_ret
        exact ⟨rfl, (Below.refl _ _).alloc (Nat.le_refl _) _⟩
theorem run_index_row {P : Program} (t e : TypeId) (n : Nat) (cs : Array Value) (k : IntKind) (j : Nat) (v : Value) (w : World) (h : P.underlying t = some (.array n e)) (hj : j < n) (ha : ∀ w, (isAgg e).run P w = .ok false w) (hs : ∀ w, (sizeOf e).run P w = .ok 1 w) (hv : cs[j]? = some v) :
    (Instr.index t (.agg cs) (.int k (j : Int))).run P w = .ok v w := by
  have h1 : (0 : Int) ≤ (j : Int) ∧ (j : Int) < (n : Int) := by omega
  simp [Instr.index, run_underlying h, asIntOf, h1, part, hs, ha, hv, go_sem]
  intro hc; omega
def leastRow : Array Value := #[.int .i64 0, .int .i64 0, .int .i64 2, .int .i64 3, .int .i64 1, .int .i64 3]
theorem least_index (j : Nat) (h : j < 6) (w : World) : (Instr.index 253 (.agg leastRow) (.int .i64 (j : Int))).run Tryz.prog w = .ok (leastRow[j]'h) w :=
  run_index_row 253 3 6 leastRow .i64 j _ w Tryz.underlying253 h Tryz.isAgg3 Tryz.sizeOf3 (Array.getElem?_eq_getElem h)
theorem least_any (k : Int) (w : World) (h : At.kindB k = true) :
    Calls Tryz.prog 216 #[.int .i64 k] w fun e w' => e = .returned (.int .i64 (At.leastF k : Int)) ∧ w' = w := by
  unfold At.kindB at h
  simp only [Bool.and_eq_true, decide_eq_true_eq] at h
  obtain ⟨j, hj, h6, hv⟩ : ∃ j : Nat, k = (j : Int) ∧ ∃ h6 : j < 6, leastRow[j]'h6 = .int .i64 (At.leastF k : Int) := by
    rcases (show k = 1 ∨ k = 2 ∨ k = 3 ∨ k = 4 ∨ k = 5 by omega) with rfl | rfl | rfl | rfl | rfl
    · exact ⟨1, rfl, by decide, rfl⟩
    · exact ⟨2, rfl, by decide, rfl⟩
    · exact ⟨3, rfl, by decide, rfl⟩
    · exact ⟨4, rfl, by decide, rfl⟩
    · exact ⟨5, rfl, by decide, rfl⟩
  have IX := least_index j h6 w
  rw [hv, ← hj] at IX
  unfold leastRow at IX
  clear hv hj h6 h
  go_enter Tryz.func216, Tryz.ntmps216
  go_wp2_with fail
  go_ret
  exact ⟨rfl, rfl⟩
theorem on_any (x y : Int) (w : World) :
    Calls Tryz.prog 218 #[.agg #[.int .i64 x, .int .i64 y]] w fun e w' => e = .returned (.bool (At.onB x y)) ∧ Below w.heap.size w w' := by
  have BB := Lib.hid ((Below.refl w.heap.size w).alloc (Nat.le_refl _) (.cells #[.int .i64 x, .int .i64 y] 88))
  have OB : Hid (At.onB x y = (decide (0 ≤ x) && decide (x < 1048576) && decide (0 ≤ y) && decide (y < 1048576))) := Lib.hid rfl
  generalize At.onB x y = R at *
  cases h1 : decide (0 ≤ x)
  · rw [h1] at OB
    go_enter Tryz.func218, Tryz.ntmps218
    go_wp2_with fail
    go_ret
    exact ⟨by rw [OB.out]; rfl, BB.out⟩
  · cases h2 : decide (x < 1048576)
    · rw [h1, h2] at OB
      go_enter Tryz.func218, Tryz.ntmps218
      go_wp2_with fail
      go_ret
      exact ⟨by rw [OB.out]; rfl, BB.out⟩
    · cases h3 : decide (0 ≤ y)
      · rw [h1, h2, h3] at OB
        go_enter Tryz.func218, Tryz.ntmps218
        go_wp2_with fail
        go_ret
        exact ⟨by rw [OB.out]; rfl, BB.out⟩
      · cases h4 : decide (y < 1048576)
        all_goals
          rw [h1, h2, h3, h4] at OB
          go_enter Tryz.func218, Tryz.ntmps218
          go_wp2_with fail
          go_ret
          exact ⟨by rw [OB.out]; rfl, BB.out⟩
end Go.Proofs.YtniklmikdkjgiaaGreatDoor
namespace Go.Proofs.YtniklmikdkjgiaaGreatDoor
open Go.RowKit
def SlIs (w : World) (v : Value) (n : Nat) (xs : List Value) : Prop := ∃ A c, v = .slice A n c ∧ Rd w A xs
theorem SlIs.below {w w' : World} {v : Value} {n : Nat} {xs : List Value} (h : SlIs w v n xs) (hb : Below w.heap.size w w') : SlIs w' v n xs := by
  obtain ⟨A, c, e, h⟩ := h; exact ⟨A, c, e, h.below hb⟩
structure RO where
  c : At.Ob
  rv : Value
  tv : Value
def roC (r : RO) : List Value := [.string (mkB r.c.id), .int .i64 r.c.kind, .int .i64 r.c.x, .int .i64 r.c.y, r.rv, r.tv]
def roA (r : RO) : Value := .agg #[.string (mkB r.c.id), .int .i64 r.c.kind, .int .i64 r.c.x, .int .i64 r.c.y, r.rv, r.tv]
structure ObIs (w : World) (r : RO) : Prop where
  rs : SlIs w r.rv r.c.refs.length (strsC r.c.refs)
  ts : SlIs w r.tv r.c.tags.length (tagsC r.c.tags)
theorem ObIs.below {w w' : World} {r : RO} (h : ObIs w r) (hb : Below w.heap.size w w') : ObIs w' r := ⟨h.rs.below hb, h.ts.below hb⟩
structure ObSz (o : At.Ob) : Prop where
  id : o.id.length ≤ 1000000
  refs : o.refs.length ≤ 1000000
  ref : ∀ s ∈ o.refs, s.length ≤ 1000000
  tags : o.tags.length ≤ 1000000
  tag : ∀ t ∈ o.tags, t.1.length ≤ 9223372036854775807 ∧ t.2.length ≤ 9223372036854775807
theorem same_any (r s : RO) (w : World) (h : ObIs w r) (k : ObIs w s) (hr : ObSz r.c) (hs : ObSz s.c) :
    Calls Tryz.prog 219 #[roA r, roA s] w fun e w' => e = .returned (.bool (At.sameO r.c s.c)) ∧ Below w.heap.size w w' := by
  obtain ⟨⟨A1, c1, v1, r1⟩, ⟨A2, c2, v2, r2⟩⟩ := h
  obtain ⟨⟨A3, c3, v3, r3⟩, ⟨A4, c4, v4, r4⟩⟩ := k
  have SO : Hid (At.sameO r.c s.c = (decide (r.c.id = s.c.id) && decide (r.c.kind = s.c.kind) && decide (r.c.x = s.c.x) && decide (r.c.y = s.c.y) && decide (r.c.refs = s.c.refs) && decide (r.c.tags = s.c.tags))) := Lib.hid rfl
  have BB : Below w.heap.size w ((w.alloc (.cells #[.string (mkB r.c.id), .int .i64 r.c.kind, .int .i64 r.c.x, .int .i64 r.c.y, r.rv, r.tv] 91)).alloc (.cells #[.string (mkB s.c.id), .int .i64 s.c.kind, .int .i64 s.c.x, .int .i64 s.c.y, s.rv, s.tv] 91)) := ((Below.refl _ _).alloc (Nat.le_refl _) _).alloc (by simp) _
  have ER : Hid (∀ u, Below w.heap.size w u → Calls Tryz.prog 97 #[.slice A1 r.c.refs.length c1, .slice A3 s.c.refs.length c3] u fun e w' => e = .returned (.bool (decide (r.c.refs = s.c.refs))) ∧ Below u.heap.size u w') := Lib.hid (fun u hu => eqs_any A1 A3 c1 c3 _ _ _ _ u rfl rfl hr.refs hs.refs (r1.below hu) (r3.below hu))
  have ET : Hid (∀ u, Below w.heap.size w u → Calls Tryz.prog 129 #[.slice A2 r.c.tags.length c2, .slice A4 s.c.tags.length c4] u fun e w' => e = .returned (.bool (decide (r.c.tags = s.c.tags))) ∧ Below u.heap.size u w') := Lib.hid (fun u hu => eqt_any A2 A4 c2 c4 _ _ _ _ u rfl rfl hr.tags hs.tags (r2.below hu) (r4.below hu))
  have t1 := mkB_tl r.c.id
  have t2 := mkB_tl s.c.id
  unfold roA
  rw [v1, v2, v3, v4] at *
  clear r1 r2 r3 r4 v1 v2 v3 v4 hr hs
  generalize At.sameO r.c s.c = R at *
  generalize decide (r.c.refs = s.c.refs) = dr at *
  generalize decide (r.c.tags = s.c.tags) = dt at *
  generalize r.c.refs.length = n1 at *
  generalize s.c.refs.length = n3 at *
  generalize r.c.tags.length = n2 at *
  generalize s.c.tags.length = n4 at *
  generalize r.c.id = a1 at *
  generalize r.c.kind = a2 at *
  generalize r.c.x = a3 at *
  generalize r.c.y = a4 at *
  generalize s.c.id = b1 at *
  generalize s.c.kind = b2 at *
  generalize s.c.x = b3 at *
  generalize s.c.y = b4 at *
  obtain ⟨W, hW⟩ : ∃ W, W = (w.alloc (.cells #[.string (mkB a1), .int .i64 a2, .int .i64 a3, .int .i64 a4, .slice A1 n1 c1, .slice A2 n2 c2] 91)).alloc (.cells #[.string (mkB b1), .int .i64 b2, .int .i64 b3, .int .i64 b4, .slice A3 n3 c3, .slice A4 n4 c4] 91) := ⟨_, rfl⟩
  have HX : Hid (W.heap[w.heap.size]? = some (.cells #[.string (mkB a1), .int .i64 a2, .int .i64 a3, .int .i64 a4, .slice A1 n1 c1, .slice A2 n2 c2] 91 (0, 0))) := Lib.hid (by rw [hW]; exact (alloc_old _ _ (by simp)).trans (heap_alloc_new w _))
  have HY : Hid (W.heap[w.heap.size + 1]? = some (.cells #[.string (mkB b1), .int .i64 b2, .int .i64 b3, .int .i64 b4, .slice A3 n3 c3, .slice A4 n4 c4] 91 (0, 0))) := Lib.hid (by rw [hW]; exact alloc_new' _ _ _ (by simp))
  have HZ : W.heap.size = w.heap.size + 2 := by rw [hW]; simp
  rw [← hW] at BB
  have BH := Lib.hid BB
  clear BB
  go_enter Tryz.func219, Tryz.ntmps219
  go_upto_region 1 with fail
  rw [← hW]
  clear hW
  have w10 := cell_of_row W w.heap.size 0 _ _ _ HX.out
  have w11 := cell_of_row W w.heap.size 1 _ _ _ HX.out
  have w12 := cell_of_row W w.heap.size 2 _ _ _ HX.out
  have w13 := cell_of_row W w.heap.size 3 _ _ _ HX.out
  have w14 := cell_of_row W w.heap.size 4 _ _ _ HX.out
  have w20 := cell_of_row W (w.heap.size + 1) 0 _ _ _ HY.out
  have w21 := cell_of_row W (w.heap.size + 1) 1 _ _ _ HY.out
  have w22 := cell_of_row W (w.heap.size + 1) 2 _ _ _ HY.out
  have w23 := cell_of_row W (w.heap.size + 1) 3 _ _ _ HY.out
  have w24 := cell_of_row W (w.heap.size + 1) 4 _ _ _ HY.out
  simp at w10 w11 w12 w13 w14 w20 w21 w22 w23 w24
  by_cases h1 : a1 = b1
  · have e1 : (a1 == b1) = true := by rw [h1]; simp
    have q1 : decide (a1 = b1) = true := decide_eq_true h1
    by_cases h2 : a2 = b2
    · have e2 : (a2 == b2) = true := by rw [h2]; simp
      by_cases h3 : a3 = b3
      · have e3 : (a3 == b3) = true := by rw [h3]; simp
        by_cases h4 : a4 = b4
        · have e4 : (a4 == b4) = true := by rw [h4]; simp
          rw [q1, decide_eq_true h2, decide_eq_true h3, decide_eq_true h4] at SO
          have S2 : Hid (R = (dr && dt)) := Lib.hid SO.out
          clear SO h1 q1 h2 h3 h4
          go_wp2_with fail
          refine (ER.out W BH.out).mono ?_
          rintro e w1 ⟨rfl, b1'⟩
          have B1 := Lib.hid (BH.out.trans (b1'.mono BH.out.size))
          have u15 := cell_of_row w1 w.heap.size 5 _ _ _ ((b1'.block _ (by omega)).trans HX.out)
          have u25 := cell_of_row w1 (w.heap.size + 1) 5 _ _ _ ((b1'.block _ (by omega)).trans HY.out)
          simp at u15 u25
          clear b1' w10 w11 w12 w13 w14 w20 w21 w22 w23 w24
          cases dr
          · have S3 : Hid (R = false) := Lib.hid S2.out
            go_wp2_with fail
            go_ret
            exact ⟨by rw [S3.out]; rfl, B1.out⟩
          · go_wp2_with fail
            refine (ET.out w1 B1.out).mono ?_
            rintro e w2 ⟨rfl, b2'⟩
            have B2 := Lib.hid (B1.out.trans (b2'.mono B1.out.size))
            have S3 : Hid (R = dt) := Lib.hid S2.out
            clear b2'
            cases dt
            all_goals
              go_wp2_with fail
              go_ret
              exact ⟨by rw [S3.out]; rfl, B2.out⟩
        · have e4 : (a4 == b4) = false := by simpa using h4
          have S3 : Hid (R = false) := Lib.hid (by rw [SO.out, decide_eq_false h4]; simp)
          clear SO h1 q1 h2 h3 h4
          go_wp2_with fail
          go_ret
          exact ⟨by rw [S3.out]; rfl, BH.out⟩
      · have e3 : (a3 == b3) = false := by simpa using h3
        have S3 : Hid (R = false) := Lib.hid (by rw [SO.out, decide_eq_false h3]; simp)
        clear SO h1 q1 h2 h3
        go_wp2_with fail
        go_ret
        exact ⟨by rw [S3.out]; rfl, BH.out⟩
    · have e2 : (a2 == b2) = false := by simpa using h2
      have S3 : Hid (R = false) := Lib.hid (by rw [SO.out, decide_eq_false h2]; simp)
      clear SO h1 q1 h2
      go_wp2_with fail
      go_ret
      exact ⟨by rw [S3.out]; rfl, BH.out⟩
  · have e1 : (a1 == b1) = false := by simpa using h1
    have S3 : Hid (R = false) := Lib.hid (by rw [SO.out, decide_eq_false h1]; simp)
    clear SO h1
    go_wp2_with fail
    go_ret
    exact ⟨by rw [S3.out]; rfl, BH.out⟩
end Go.Proofs.YtniklmikdkjgiaaGreatDoor
namespace Go.Proofs.YtniklmikdkjgiaaGreatDoor
open Go.RowKit Go.Maps Go.ChangeMaps Go.MapKept Go.WideShapes Go.WideMaps
theorem strK : Go.Maps.Keyed Tryz.prog 9 := Maps.string_keyed Tryz.underlying9
theorem key_str (s : Tx) (hs : s.length ≤ 1000000) : keyOf Tryz.prog 9 (.string (mkB s)) = some (.string s) := by
  have := keyOf_string_mk (P := Tryz.prog) (s := mkB s) Tryz.underlying9 (by unfold maxLen; rw [mkB_len]; omega)
  rwa [mkB_list] at this
theorem zBool (w : World) : (zeroValue 4).run Tryz.prog w = .ok (.bool false) w := by kernel_rfl
def seenM (seen : List Tx) : Lit → Option Value
  | .string t => if t ∈ seen then some (.bool true) else none
  | _ => none
theorem same_str {a b : List UInt8} : (Lit.string a).sameKey (.string b) = decide (a = b) := by
  rw [Bool.eq_iff_iff]; simp [Lit.sameKey]
theorem seenM_upd (seen : List Tx) (t : Tx) : updM (seenM seen) (.string t) (.bool true) = seenM (t :: seen) := by
  funext x
  unfold updM
  by_cases e : x = .string t
  · subst e
    rw [if_pos (by rw [same_str]; simp)]
    simp [seenM]
  · rw [if_neg (by rw [Maps.sameKey_ne e]; simp)]
    cases x with
    | string s =>
      have hs : s ≠ t := fun h => e (by rw [h])
      simp [seenM, hs]
    | _ => rfl
structure Wr (w : World) (bo bl bs bm : Nat) (o : RO) (last : Tx) (seen : List Tx) (nk : Nat) : Prop where
  box : w.heap[bo]? = some (.cells #[.string (mkB o.c.id), .int .i64 o.c.kind, .int .i64 o.c.x, .int .i64 o.c.y, o.rv, o.tv] 91 (0, 0))
  lst : w.heap[bl]? = some (.cells #[.string (mkB last)] 9 (0, 0))
  sn : w.heap[bs]? = some (.cells #[.map (some bm)] 62 (0, 0))
  mp : MapAt w Tryz.prog 9 bm (seenM seen) nk
  ne : bo ≠ bl ∧ bs ≠ bl ∧ bo ≠ bm ∧ bs ≠ bm ∧ bl ≠ bm
def wrongB (kind : Int) (last : Tx) (seen : List Tx) (s : Tx) : Bool := (decide (kind = 2) && decide (s = last) || decide (kind = 3) && decide (s ∈ seen)) || !At.nameB s
def WrPost (w : World) (bo bl bs bm : Nat) (o : RO) (last : Tx) (seen : List Tx) (nk : Nat) (s : Tx) (e : Ending) (w' : World) : Prop :=
  e = .returned (.bool (wrongB o.c.kind last seen s)) ∧ (∃ nk' ≤ nk + 1, Wr w' bo bl bs bm o s (s :: seen) nk') ∧ But (fun b => b = bl ∨ b = bm) w w'
theorem wrong_any (bo bl bs bm : Nat) (o : RO) (last s : Tx) (seen : List Tx) (nk : Nat) (w : World) (h : Wr w bo bl bs bm o last seen nk) (hs : s.length ≤ 1000000) (hn : nk ≤ 1000000) :
    Calls Tryz.prog 217 #[.string (mkB s), .pointer (some ⟨bo, 0, none⟩), .pointer (some ⟨bl, 0, none⟩), .pointer (some ⟨bs, 0, none⟩)] w (WrPost w bo bl bs bm o last seen nk s) := by
  have H := Lib.hid h
  have k1 := cell_of_row w bo 1 _ _ _ h.box
  have l0 := cell_of_row w bl 0 _ _ _ h.lst
  have s0 := cell_of_row w bs 0 _ _ _ h.sn
  have fl := free_blk h.lst 0
  simp at k1 l0 s0
  have KS := key_str s hs
  have lk := h.mp.look strK Tryz.underlying62 (zBool w) KS
  obtain ⟨w2, hup, hm2, hg2⟩ := h.mp.upd strK Tryz.underlying62 (by unfold maxLen; omega) KS (.bool true)
  rw [seenM_upd] at hm2
  have gB : ∀ b, b < w.heap.size → b ≠ bm → w2.heap[b]? = w.heap[b]? := fun b hb hne => hg2.block b hb (fun e => hne (Option.some.inj e))
  have hlt : ∀ b x, w.heap[b]? = some x → b < w.heap.size := fun b x hx => by
    rcases Nat.lt_or_ge b w.heap.size with h' | h'
    · exact h'
    · rw [Array.getElem?_eq_none h'] at hx; cases hx
  have nl2 : w2.heap[bl]? = some (.cells #[.string (mkB last)] 9 (0, 0)) := (gB bl (hlt _ _ h.lst) h.ne.2.2.2.2).trans h.lst
  have l2 := cell_of_row w2 bl 0 _ _ _ nl2
  have f2 := free_blk nl2 0
  simp at l2
  have W3 : Wr (w2.setCell ⟨bl, 0, none⟩ (.string (mkB s))) bo bl bs bm o s (s :: seen) (nk + if (seenM seen (.string s)).isSome then 0 else 1) :=
    ⟨(Below.heap_setCell _ _ _ _ (by exact h.ne.1)).trans ((gB bo (hlt _ _ h.box) h.ne.2.2.1).trans h.box), one_setCell nl2, (Below.heap_setCell _ _ _ _ (by exact h.ne.2.1)).trans ((gB bs (hlt _ _ h.sn) h.ne.2.2.2.1).trans h.sn), hm2.same (Below.heap_setCell _ _ _ _ (by exact h.ne.2.2.2.2.symm)), h.ne⟩
  have U3 : But (fun b => b = bl ∨ b = bm) w (w2.setCell ⟨bl, 0, none⟩ (.string (mkB s))) :=
    But.set (p := ⟨bl, 0, none⟩) ⟨hg2.os, hg2.tape, hg2.output, hg2.size, fun b hb hx => gB b hb (fun e => hx (.inr e))⟩ (.inl rfl) _
  have W3H := Lib.hid W3
  have U3H := Lib.hid U3
  have nkb : (nk + if (seenM seen (.string s)).isSome then 0 else 1) ≤ nk + 1 := by split <;> omega
  generalize (nk + if (seenM seen (.string s)).isSome then 0 else 1) = nk' at *
  have NKB := Lib.hid nkb
  have LV : Hid ((seenM seen (.string s)).getD (.bool false) = .bool (decide (s ∈ seen))) := Lib.hid (by
    by_cases e : s ∈ seen <;> simp [seenM, e])
  rw [LV.out] at lk
  have NM := fun u => Lib.hid (name_any s u (by omega))
  have ts := mkB_tl s
  have tl := mkB_tl last
  have WB : Hid (wrongB o.c.kind last seen s = ((decide (o.c.kind = 2) && decide (s = last) || decide (o.c.kind = 3) && decide (s ∈ seen)) || !At.nameB s)) := Lib.hid rfl
  unfold WrPost
  generalize wrongB o.c.kind last seen s = R at *
  have FIN : ∀ (T : Bool) (w1 : World), R = T → Below (w2.setCell ⟨bl, 0, none⟩ (.string (mkB s))).heap.size (w2.setCell ⟨bl, 0, none⟩ (.string (mkB s))) w1 → (∃ nk' ≤ nk + 1, Wr w1 bo bl bs bm o s (s :: seen) nk') ∧ But (fun b => b = bl ∨ b = bm) w w1 := fun T w1 _ hb => by
    have hw := W3H.out
    refine ⟨⟨nk', NKB.out, ⟨(hb.block _ ?_).trans hw.box, (hb.block _ ?_).trans hw.lst, (hb.block _ ?_).trans hw.sn, hw.mp.same (hb.block _ hw.mp.lt), hw.ne⟩⟩, U3H.out.trans (But.of_below hb)⟩
    all_goals
      refine Nat.lt_of_not_le (fun h' => ?_)
    · have := hw.box; rw [Array.getElem?_eq_none h'] at this; cases this
    · have := hw.lst; rw [Array.getElem?_eq_none h'] at this; cases this
    · have := hw.sn; rw [Array.getElem?_eq_none h'] at this; cases this
  have FINH := Lib.hid FIN
  clear W3 U3 nkb FIN hm2 hg2 gB hlt h KS nl2 LV
  generalize o.c.kind = kd at *
  generalize decide (s ∈ seen) = ds at *
  generalize At.nameB s = nb at *
  by_cases k2 : kd = 2
  · subst k2
    by_cases e : s = last
    · have e1 : (s == last) = true := by rw [e]; simp
      have R1 : Hid (R = true) := Lib.hid (by rw [WB.out, decide_eq_true e]; simp)
      clear WB e NM
      go_enter Tryz.func217, Tryz.ntmps217
      go_wp2_with fail
      go_ret
      exact ⟨by rw [R1.out]; rfl, FINH.out true _ R1.out (Below.refl _ _)⟩
    · have e1 : (s == last) = false := by simpa using e
      have R1 : Hid (R = !nb) := Lib.hid (by rw [WB.out, decide_eq_false e]; simp)
      clear WB e
      go_enter Tryz.func217, Tryz.ntmps217
      go_wp2_with fail
      refine (NM _).out.mono ?_
      rintro e w4 ⟨rfl, b4⟩
      have B4 := Lib.hid b4
      clear b4 NM
      cases nb
      all_goals
        go_wp2_with fail
        go_ret
        exact ⟨by rw [R1.out]; rfl, FINH.out _ _ R1.out B4.out⟩
  · by_cases k3 : kd = 3
    · subst k3
      cases ds
      · have R1 : Hid (R = !nb) := Lib.hid (by rw [WB.out]; simp)
        clear WB
        go_enter Tryz.func217, Tryz.ntmps217
        go_wp2_with fail
        refine (NM _).out.mono ?_
        rintro e w4 ⟨rfl, b4⟩
        have B4 := Lib.hid b4
        clear b4 NM
        cases nb
        all_goals
          go_wp2_with fail
          go_ret
          exact ⟨by rw [R1.out]; rfl, FINH.out _ _ R1.out B4.out⟩
      · have R1 : Hid (R = true) := Lib.hid (by rw [WB.out]; simp)
        clear WB NM
        go_enter Tryz.func217, Tryz.ntmps217
        go_wp2_with fail
        go_ret
        exact ⟨by rw [R1.out]; rfl, FINH.out true _ R1.out (Below.refl _ _)⟩
    · have e2 : (kd == 2) = false := by simpa using k2
      have e3 : (kd == 3) = false := by simpa using k3
      have R1 : Hid (R = !nb) := Lib.hid (by rw [WB.out, decide_eq_false k2, decide_eq_false k3]; simp)
      clear WB k2 k3
      go_enter Tryz.func217, Tryz.ntmps217
      go_wp2_with fail
      refine (NM _).out.mono ?_
      rintro e w4 ⟨rfl, b4⟩
      have B4 := Lib.hid b4
      clear b4 NM
      cases nb
      all_goals
        go_wp2_with fail
        go_ret
        exact ⟨by rw [R1.out]; rfl, FINH.out _ _ R1.out B4.out⟩
end Go.Proofs.YtniklmikdkjgiaaGreatDoor
namespace Go.Proofs.YtniklmikdkjgiaaGreatDoor
open Go.RowKit Go.Maps Go.ChangeMaps Go.MapKept Go.WideShapes Go.WideMaps
theorem refsFrom_drop (kind : Int) (last : Tx) (seen : List Tx) (l : List Tx) {k : Nat} (h : k < l.length) :
    At.refsFrom kind last seen (l.drop k) = (!wrongB kind last seen l[k] && At.refsFrom kind l[k] (l[k] :: seen) (l.drop (k + 1))) := by
  rw [List.drop_eq_getElem_cons h, At.refsFrom]
  unfold wrongB
  generalize (decide (kind = 2) && decide (l[k] = last)) = a
  generalize (decide (kind = 3) && decide (l[k] ∈ seen)) = b
  generalize At.nameB l[k] = c
  cases a <;> cases b <;> cases c <;> rfl
def IdxSt (w0 w : World) (bl bm : Nat) (R : Bool) (e : Ending) (w' : World) : Prop :=
  (∃ i : Int, e = .returned (.int .i64 i) ∧ decide (0 ≤ i) = !R) ∧ But (fun b => b = bl ∨ b = bm) w w'
structure WrR (w0 w wr : World) (bo bl bs bm : Nat) (o : RO) (R : Bool) (l : List Tx) (k n0 : Nat) : Prop where
  st : ∃ last seen nk, Wr wr bo bl bs bm o last seen nk ∧ nk ≤ n0 + k ∧ R = At.refsFrom o.c.kind last seen (l.drop k)
  bt : But (fun b => b = bl ∨ b = bm) w wr
  bw : Below w0.heap.size w0 wr
theorem idxs_any (A : Option Addr) (n c : Nat) (l : List Tx) (bo bl bs bm : Nat) (o : RO) (last : Tx) (seen : List Tx) (nk : Nat) (w0 w : World) (hn : n = l.length) (hl : n ≤ 100000) (hs : ∀ s ∈ l, s.length ≤ 1000000) (h : Rd w0 A (strsC l))
    (hw : Wr w bo bl bs bm o last seen nk) (hk : nk ≤ 100000) (hb : Below w0.heap.size w0 w) (h1 : w0.heap.size ≤ bl) (h2 : w0.heap.size ≤ bm) :
    Calls Tryz.prog 117 #[.slice A n c, .func (.func 217) #[] #[.pointer (some ⟨bo, 0, none⟩), .pointer (some ⟨bl, 0, none⟩), .pointer (some ⟨bs, 0, none⟩)]] w (IdxSt w0 w bl bm (At.refsFrom o.c.kind last seen l)) := by
  have H := Lib.hid h
  have HN := Lib.hid hn
  have HS := Lib.hid hs
  have H12 := Lib.hid (And.intro h1 h2)
  obtain ⟨R, hR⟩ : ∃ R, At.refsFrom o.c.kind last seen l = R := ⟨_, rfl⟩
  have ST : Hid (WrR w0 w w bo bl bs bm o R l 0 nk) := Lib.hid ⟨⟨last, seen, nk, hw, by omega, hR.symm⟩, But.refl _ _, hb⟩
  rw [hR]
  clear hR h hn hs hw hb h1 h2
  go_enter Tryz.func117, Tryz.ntmps117
  go_wp2_with fail
  go_loopw [8] (fun s8 wr => ∃ k : Nat, k ≤ n ∧ s8 = .int .i64 (k : Int) ∧ Hid (WrR w0 w wr bo bl bs bm o R l k nk)) (fun i _ => n - (intOf i).toNat)
  case atStart => exact ⟨0, Nat.zero_le _, rfl, ST⟩
  case round =>
    clear ST
    obtain ⟨k, hkn, rfl, WR⟩ := hrel
    by_cases hlt : k < n
    · have hkl : k < l.length := by rw [← HN.out]; exact hlt
      have d1 : (k : Int) < (n : Int) := by omega
      have d2 : (0 : Int) ≤ (k : Int) := by omega
      obtain ⟨lastk, seenk, nkk, hst, hnk, hRk⟩ := WR.out.st
      obtain ⟨b, off, rfl, hbz, c0⟩ := strs_at (H.out.below WR.out.bw) hkl
      rw [refsFrom_drop _ _ _ _ hkl] at hRk
      have WC := Lib.hid (wrong_any bo bl bs bm o lastk l[k] seenk nkk wr hst (HS.out _ (List.getElem_mem hkl)) (by omega))
      have RK := Lib.hid hRk
      have NK := Lib.hid hnk
      generalize l[k] = s at *
      clear hst hRk hnk
      go_wp2_with fail
      refine WC.out.mono ?_
      rintro e w1 ⟨rfl, ⟨nk', hnk', hW⟩, hbt⟩
      have BT := Lib.hid (WR.out.bt.trans hbt)
      have BW := Lib.hid (WR.out.bw.trans (hbt.below (B := w0.heap.size) WR.out.bw.size (fun b hb => by rcases hb with rfl | rfl; exact H12.out.1; exact H12.out.2)))
      have HW := Lib.hid hW
      have NK2 : Hid (nk' ≤ nk + (k + 1)) := Lib.hid (by have := NK.out; omega)
      clear hbt hW hnk' WC NK WR
      cases hwr : wrongB o.c.kind lastk seenk s
      · rw [hwr] at RK
        have ST2 : Hid (WrR w0 w w1 bo bl bs bm o R l (k + 1) nk) := Lib.hid ⟨⟨s, s :: seenk, nk', HW.out, NK2.out, by rw [RK.out]; rfl⟩, BT.out, BW.out⟩
        clear RK BT BW HW NK2
        go_wp2_with fail
        exact ⟨⟨k + 1, by omega, by go_num, ST2⟩, by simp [intOf]; omega⟩
      · have RF : Hid (R = false) := Lib.hid (by rw [RK.out, hwr]; rfl)
        go_wp2_with fail
        go_ret
        exact ⟨⟨(k : Int), rfl, by rw [RF.out, decide_eq_true d2]; rfl⟩, BT.out⟩
    · have d1 : ¬ (k : Int) < (n : Int) := by omega
      have RT : Hid (R = true) := Lib.hid (by
        obtain ⟨lastk, seenk, nkk, _, _, hRk⟩ := WR.out.st
        rw [hRk, List.drop_eq_nil_of_le (by rw [← HN.out]; omega)]; rfl)
      have BT := Lib.hid WR.out.bt
      clear WR
      go_wp2_with fail
      go_ret
      exact ⟨⟨-1, rfl, by rw [RT.out]; rfl⟩, BT.out⟩
def HasSt (w0 w : World) (bl bm : Nat) (R : Bool) (e : Ending) (w' : World) : Prop := e = .returned (.bool (!R)) ∧ But (fun b => b = bl ∨ b = bm) w w'
theorem hass_any (A : Option Addr) (n c : Nat) (l : List Tx) (bo bl bs bm : Nat) (o : RO) (last : Tx) (seen : List Tx) (nk : Nat) (w0 w : World) (hn : n = l.length) (hl : n ≤ 100000) (hs : ∀ s ∈ l, s.length ≤ 1000000) (h : Rd w0 A (strsC l))
    (hw : Wr w bo bl bs bm o last seen nk) (hk : nk ≤ 100000) (hb : Below w0.heap.size w0 w) (h1 : w0.heap.size ≤ bl) (h2 : w0.heap.size ≤ bm) :
    Calls Tryz.prog 74 #[.slice A n c, .func (.func 217) #[] #[.pointer (some ⟨bo, 0, none⟩), .pointer (some ⟨bl, 0, none⟩), .pointer (some ⟨bs, 0, none⟩)]] w (HasSt w0 w bl bm (At.refsFrom o.c.kind last seen l)) := by
  have IX := Lib.hid (idxs_any A n c l bo bl bs bm o last seen nk w0 w hn hl hs h hw hk hb h1 h2)
  generalize At.refsFrom o.c.kind last seen l = R at *
  clear hn hs h hw hk hb h1 h2
  go_enter Tryz.func74, Tryz.ntmps74
  go_wp2_with fail
  refine IX.out.mono ?_
  rintro e w1 ⟨⟨i, rfl, hi⟩, bt⟩
  have BT := Lib.hid bt
  clear bt IX
  cases R
  · have q : decide (0 ≤ i) = true := hi
    clear hi
    go_wp2_with fail
    go_ret
    exact ⟨rfl, BT.out⟩
  · have q : decide (0 ≤ i) = false := hi
    clear hi
    go_wp2_with fail
    go_ret
    exact ⟨rfl, BT.out⟩
end Go.Proofs.YtniklmikdkjgiaaGreatDoor
